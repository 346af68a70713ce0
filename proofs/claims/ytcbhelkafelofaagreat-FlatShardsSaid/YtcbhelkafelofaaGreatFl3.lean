/- Rows of things: cells of a list, one behind the other; slices that are read. -/
import Derived.Test.YtcbhelkafelofaaGreatTy
namespace Go.Proofs.YtcbhelkafelofaaGreat
open Go.Am
set_option linter.unusedSimpArgs false
set_option linter.unusedVariables false
noncomputable section

section
variable {α : Type} {f : α → List Sc} {w : Nat}
theorem fm_len (h : ∀ x, (f x).length = w) : ∀ L : List α, (L.flatMap f).length = L.length * w
  | [] => by simp
  | x :: L => by rw [List.flatMap_cons, List.length_append, fm_len h L, h x, List.length_cons, Nat.add_mul, Nat.one_mul, Nat.add_comm]
theorem fm_drop (h : ∀ x, (f x).length = w) : ∀ (L : List α) (k : Nat), (L.flatMap f).drop (k * w) = (L.drop k).flatMap f
  | [], k => by simp
  | x :: L, 0 => by simp
  | x :: L, k + 1 => by
    rw [List.flatMap_cons, List.drop_succ_cons, ← fm_drop h L k]
    have e : (k + 1) * w = (f x).length + k * w := by rw [h x, Nat.add_mul, Nat.one_mul, Nat.add_comm]
    rw [e, ← List.drop_drop, List.drop_left]
theorem fm_get (h : ∀ x, (f x).length = w) {L : List α} {k : Nat} {x : α} (hx : L[k]? = some x) : ((L.flatMap f).drop (k * w)).take w = f x := by
  rw [fm_drop h]
  have hk : k < L.length := by
    rcases Nat.lt_or_ge k L.length with h | h
    · exact h
    · rw [List.getElem?_eq_none h] at hx; simp at hx
  rw [List.drop_eq_getElem_cons hk, List.flatMap_cons]
  rw [List.getElem?_eq_getElem hk] at hx
  simp only [Option.some.injEq] at hx
  rw [hx, ← h x, List.take_left]
theorem fm_cell (h : ∀ x, (f x).length = w) {L : List α} {k i : Nat} {x : α} (hx : L[k]? = some x) (hi : i < w) : (L.flatMap f).getD (k * w + i) .any = (f x).getD i .any := by
  have e := fm_get h hx
  rw [← e, List.getD_eq_getElem?_getD, List.getD_eq_getElem?_getD, List.getElem?_take_of_lt hi, List.getElem?_drop]
theorem fm_le (h : ∀ x, (f x).length = w) {L : List α} {k : Nat} (hk : k < L.length) : k * w + w ≤ (L.flatMap f).length := by
  rw [fm_len h]
  have : (k + 1) * w ≤ L.length * w := Nat.mul_le_mul_right _ hk
  rw [Nat.add_mul, Nat.one_mul] at this
  exact this
end

def decN {α : Type} (w : Nat) (dc : List Sc → Option α) : Nat → List Sc → Option (List α)
  | 0, _ => some []
  | n + 1, cs =>
    match dc (cs.take w), decN w dc n (cs.drop w) with
    | some a, some l => some (a :: l)
    | _, _ => none
theorem decN_enc {α : Type} {w : Nat} {dc : List Sc → Option α} {f : α → List Sc} (h : ∀ x, (f x).length = w) (hd : ∀ x, dc (f x) = some x) : ∀ L : List α, decN w dc L.length (L.flatMap f) = some L
  | [] => rfl
  | x :: L => by
    simp only [List.length_cons, decN, List.flatMap_cons]
    rw [← h x, List.take_left, List.drop_left, hd, h x, decN_enc h hd L]
theorem decN_dec {α : Type} {w : Nat} {dc : List Sc → Option α} {f : α → List Sc} (hd : ∀ cs x, dc cs = some x → cs = f x) : ∀ (n : Nat) (cs : List Sc) (L : List α), cs.length = n * w → decN w dc n cs = some L → L.length = n ∧ cs = L.flatMap f := by
  intro n
  induction n with
  | zero => intro cs L h1 h2; simp [decN] at h2; subst h2; exact ⟨rfl, by simpa using h1⟩
  | succ n ih =>
    intro cs L h1 h2
    simp only [decN] at h2
    split at h2
    · rename_i a l e1 e2
      simp only [Option.some.injEq] at h2
      subst h2
      obtain ⟨g1, g2⟩ := ih _ _ (by rw [List.length_drop, h1, Nat.add_mul, Nat.one_mul]; omega) e2
      refine ⟨by simp [g1], ?_⟩
      rw [List.flatMap_cons, ← hd _ _ e1, ← g2, List.take_append_drop]
    · simp at h2
def slD {α : Type} (w : Nat) (dc : List Sc → Option α) (H : AH) : Sc → Option (List α)
  | .nils => some []
  | .sl id 0 v n => if v = (hg H id).row ∧ (hg H id).cells.length = n * w then decN w dc n (hg H id).cells else none
  | _ => none
theorem slD_of {α : Type} {w : Nat} {dc : List Sc → Option α} {f : α → List Sc} (h : ∀ x, (f x).length = w) (hd : ∀ x, dc (f x) = some x) {H : AH} {id v n : Nat} {L : List α} (hv : v = (hg H id).row) (hn : n = L.length) (hc : (hg H id).cells = L.flatMap f) : slD w dc H (.sl id 0 v n) = some L := by
  subst hn
  simp only [slD, hv, hc, fm_len h, and_self, if_true]
  exact decN_enc h hd L
theorem slD_inv {α : Type} {w : Nat} {dc : List Sc → Option α} {f : α → List Sc} (hd : ∀ cs x, dc cs = some x → cs = f x) {H : AH} {x : Sc} {L : List α} (h : slD w dc H x = some L) : (x = .nils ∧ L = []) ∨ ∃ id v, x = .sl id 0 v L.length ∧ v = (hg H id).row ∧ (hg H id).cells = L.flatMap f := by
  unfold slD at h
  split at h
  · simp at h; exact .inl ⟨rfl, h⟩
  · split at h
    · rename_i id v n hc
      obtain ⟨e1, e2⟩ := decN_dec hd _ _ _ hc.2 h
      exact .inr ⟨id, v, by rw [e1], hc.1, e2⟩
    · simp at h
  · simp at h

def encU (x : BitVec 64) : List Sc := [.u x]
def dcU : List Sc → Option (BitVec 64)
  | [.u x] => some x
  | _ => none
theorem dcU_e (x : BitVec 64) : dcU (encU x) = some x := rfl
theorem dcU_d (cs : List Sc) (x : BitVec 64) (h : dcU cs = some x) : cs = encU x := by unfold dcU at h; split at h <;> simp_all [encU]
theorem encU_l (x : BitVec 64) : (encU x).length = 1 := rfl
theorem fm1 {α : Type} {f : α → List Sc} {g : α → Sc} (h : ∀ x, f x = [g x]) {L : List α} {k : Nat} {x : α} (hx : L[k]? = some x) : (L.flatMap f).getD k .any = g x := by
  have e := fm_cell (f := f) (w := 1) (i := 0) (fun y => by rw [h y]; rfl) hx (by decide)
  rw [Nat.mul_one, Nat.add_zero] at e
  rw [e, h x]; rfl
theorem fit_rows {α : Type} {ks : List K} {f : α → List Sc} {p : α → Prop} (hk : ∀ cs, L2 FitK cs ks → ∃ x, cs = f x ∧ p x) : ∀ (n : Nat) (cs : List Sc), L2 FitK cs (List.replicate n ks).flatten → ∃ L : List α, L.length = n ∧ cs = L.flatMap f ∧ ∀ x ∈ L, p x := by
  intro n
  induction n with
  | zero => intro cs h; simp only [List.replicate_zero, List.flatten_nil] at h; obtain rfl := fit_nil h; exact ⟨[], rfl, rfl, by simp⟩
  | succ n ih =>
    intro cs h
    rw [List.replicate_succ, List.flatten_cons] at h
    have split : ∀ (a b : List K) (cs : List Sc), L2 FitK cs (a ++ b) → ∃ c d, cs = c ++ d ∧ L2 FitK c a ∧ L2 FitK d b := by
      intro a
      induction a with
      | nil => intro b cs h; exact ⟨[], cs, rfl, .nil, h⟩
      | cons k a ih =>
        intro b cs h
        obtain ⟨s, r, rfl, h1, h2⟩ := fit_cons h
        obtain ⟨c, d, rfl, h3, h4⟩ := ih b r h2
        exact ⟨s :: c, d, rfl, .cons h1 h3, h4⟩
    obtain ⟨c, d, rfl, h1, h2⟩ := split _ _ _ h
    obtain ⟨x, rfl, hx⟩ := hk c h1
    obtain ⟨L, h3, rfl, h4⟩ := ih d h2
    exact ⟨x :: L, by simp [h3], by rw [List.flatMap_cons], by simpa using ⟨hx, h4⟩⟩
theorem sig_row {α : Type} {ks : List K} {f : α → List Sc} {w : Nat} {dc : List Sc → Option α} {p : α → Prop} (hk : ∀ cs, L2 FitK cs ks → ∃ x, cs = f x ∧ p x) (hw : ∀ x, (f x).length = w) (hd : ∀ x, dc (f x) = some x) {ps : List Par} {avs : List AV} {H : AH}
    (h : SigA (.sl ks :: ps) avs H) : ∃ x r, avs = .c x :: r ∧ SigA ps r H ∧ ∃ L : List α, slD w dc H x = some L ∧ (∀ x ∈ L, p x) ∧ L.length ≤ 9223372036854775807 := by
  obtain ⟨r, hr, rfl | ⟨id, n, rfl, h1, h2, h3, h4, h5, h6⟩⟩ := sig_sl h
  · exact ⟨_, r, rfl, hr, [], rfl, by simp, by simp⟩
  · obtain ⟨L, e1, e2, e3⟩ := fit_rows hk n _ h6
    exact ⟨_, r, rfl, hr, L, slD_of hw hd h2.symm e1.symm e2, e3, by omega⟩

end
end Go.Proofs.YtcbhelkafelofaaGreat
namespace Go.Proofs.YtcbhelkafelofaaGreat
open Go.Am
set_option linter.unusedSimpArgs false
set_option linter.unusedVariables false
noncomputable section

section
variable {α : Type} {f : α → List Sc} {w : Nat}
theorem fm_split (h : ∀ x, (f x).length = w) {L : List α} {k : Nat} {x : α} (hx : L[k]? = some x) : ∃ P Q, L.flatMap f = P ++ f x ++ Q ∧ P.length = k * w ∧ ∀ y, (L.set k y).flatMap f = P ++ f y ++ Q := by
  have hk : k < L.length := by
    rcases Nat.lt_or_ge k L.length with h | h
    · exact h
    · rw [List.getElem?_eq_none h] at hx; simp at hx
  rw [List.getElem?_eq_getElem hk] at hx
  simp only [Option.some.injEq] at hx
  refine ⟨(L.take k).flatMap f, (L.drop (k + 1)).flatMap f, ?_, ?_, fun y => ?_⟩
  · conv => lhs; rw [← List.take_append_drop k L, List.drop_eq_getElem_cons hk]
    rw [List.flatMap_append, List.flatMap_cons, hx, List.append_assoc]
  · rw [fm_len h, List.length_take, Nat.min_eq_left (by omega)]
  · rw [List.set_eq_take_append_cons_drop, if_pos hk, List.flatMap_append, List.flatMap_cons, List.append_assoc]
theorem splice {P M Q : List Sc} {o m : Nat} (h : o + m ≤ M.length) : ((P ++ M ++ Q).drop (P.length + o)).take m = (M.drop o).take m := by
  rw [List.append_assoc, List.drop_append, List.drop_of_length_le (by omega), List.nil_append, Nat.add_sub_cancel_left, List.drop_append_of_le_length (by omega), List.take_append_of_le_length (by rw [List.length_drop]; omega)]
theorem splice_set {P M Q l : List Sc} {o : Nat} (h : o + l.length ≤ M.length) : (P ++ M ++ Q).take (P.length + o) ++ l ++ (P ++ M ++ Q).drop (P.length + o + l.length) = P ++ (M.take o ++ l ++ M.drop (o + l.length)) ++ Q := by
  rw [List.append_assoc P M Q, List.take_length_add_append, List.take_append_of_le_length (by omega), Nat.add_assoc, List.drop_length_add_append, List.drop_append_of_le_length h]
  simp only [List.append_assoc]
end

theorem wr_fm {α : Type} {f : α → List Sc} {w : Nat} (h : ∀ x, (f x).length = w) {L : List α} {k : Nat} {x : α} (hk : k < L.length) : wr (L.flatMap f) (k * w) (f x) = (L.set k x).flatMap f := by
  obtain ⟨P, Q, h1, h2, h3⟩ := fm_split h (List.getElem?_eq_getElem hk)
  rw [h1, h3]
  unfold wr
  have := splice_set (P := P) (M := f L[k]) (Q := Q) (l := f x) (o := 0) (by rw [h, h]; omega)
  rw [Nat.add_zero, h2] at this
  rw [this]
  simp [h]
theorem wr_mid {A M B a : List Sc} {i : Nat} (h : i + a.length ≤ M.length) : wr (A ++ (M ++ B)) (A.length + i) a = A ++ (wr M i a ++ B) := by
  unfold wr
  rw [List.take_length_add_append, Nat.add_assoc, List.drop_append, List.take_append_of_le_length (by omega), List.drop_eq_nil_of_le (show A.length ≤ A.length + (i + a.length) by omega),
    show A.length + (i + a.length) - A.length = i + a.length by omega, List.drop_append_of_le_length h]
  simp only [List.append_assoc, List.nil_append]
theorem getD_mid {A M B : List Sc} {i : Nat} (h : i < M.length) : (A ++ (M ++ B)).getD (A.length + i) .any = M.getD i .any := by
  simp only [List.getD_eq_getElem?_getD]
  rw [List.getElem?_append_right (by omega), show A.length + i - A.length = i by omega, List.getElem?_append_left h]
theorem drop_mid {A M B : List Sc} {i n : Nat} (h : i + n ≤ M.length) : ((A ++ (M ++ B)).drop (A.length + i)).take n = (M.drop i).take n := by
  rw [List.drop_append, List.drop_eq_nil_of_le (by omega), show A.length + i - A.length = i by omega, List.nil_append, List.drop_append_of_le_length (by omega), List.take_append_of_le_length (by simp; omega)]
end
end Go.Proofs.YtcbhelkafelofaaGreat
namespace Go.Proofs.YtcbhelkafelofaaGreat
open Go.Am
set_option linter.unusedSimpArgs false
set_option linter.unusedVariables false
noncomputable section

structure Rq where
  s : Bool
  v : Bool
  d : Bool
  a : BitVec 64
  i : Int
def encR (r : Rq) : List Sc := [.b r.s, .b r.v, .b r.d, .u r.a, .i r.i]
theorem encR_l (r : Rq) : (encR r).length = 5 := rfl
def rq0 : Rq := ⟨false, false, false, 0#64, 0⟩
abbrev Row := {r : List Rq // r.length = 8}
def rowC (r : Row) : List Sc := r.1.flatMap encR
theorem rowC_l (r : Row) : (rowC r).length = 40 := by unfold rowC; rw [fm_len encR_l, r.2]
def row0 : Row := ⟨List.replicate 8 rq0, rfl⟩
def mlC (n : Int) (B : List Row) : List Sc := .i n :: B.flatMap rowC
theorem mlC_len (n : Int) {B : List Row} (h : B.length = 8) : (mlC n B).length = 321 := by unfold mlC; rw [List.length_cons, fm_len rowC_l, h]

end
end Go.Proofs.YtcbhelkafelofaaGreat
namespace Go.Proofs.YtcbhelkafelofaaGreat
open Go.Am
set_option linter.unusedSimpArgs false
set_option linter.unusedVariables false
noncomputable section

def Z8 : List Row := List.replicate 8 row0
theorem Z8_len : Z8.length = 8 := rfl
theorem rowC_0 : rowC row0 = [.b false, .b false, .b false, .u 0#64, .i 0, .b false, .b false, .b false, .u 0#64, .i 0, .b false, .b false, .b false, .u 0#64, .i 0, .b false, .b false, .b false, .u 0#64, .i 0, .b false, .b false, .b false, .u 0#64, .i 0, .b false, .b false, .b false, .u 0#64, .i 0, .b false, .b false, .b false, .u 0#64, .i 0, .b false, .b false, .b false, .u 0#64, .i 0] := rfl
set_option maxRecDepth 100000 in
theorem zMail : zT Tryz.prog 87 = some (mlC 0 Z8) := by kernel_rfl
def s_mnew (args : List AV) : Option AV :=
  match args with
  | [.c (.i n)] => some (.g (mlC (if 1 ≤ n ∧ n ≤ 8 then n else 0) Z8))
  | _ => none
theorem s_mnew_eq {n} : s_mnew [.c (.i n)] = some (.g (mlC (if 1 ≤ n ∧ n ≤ 8 then n else 0) Z8)) := rfl
set_option maxRecDepth 100000 in
set_option maxHeartbeats 2000000 in
theorem ok_mnew : PuOk Tryz.prog 46 s_mnew := by
  refine pu_ok (tab := []) hmix TabOk.nil Tryz.func46 rfl Tryz.results46 Tryz.ntmps46 (by kernel_rfl) (by kernel_rfl) ?_
  intro args v h
  unfold s_mnew at h
  split at h
  · rename_i n
    simp only [Option.some.injEq] at h; subst h
    have pz : ∀ m, (mlC m Z8).all Sc.pf = true := fun m => rfl
    refine ⟨by simp only [List.length_cons, List.length_nil]; decide, by first | rfl | simp only [List.all_cons, List.all_nil, AV.pf, Sc.pf, Bool.and_true, *], by first | rfl | simp only [List.all_cons, List.all_nil, AV.pf, Sc.pf, Bool.and_true, *], ?_⟩
    have l0 := fun m => mlC_len m Z8_len
    have d1 : ∀ m, (mlC m Z8).drop 321 = [] := fun m => List.drop_of_length_le (by rw [l0]; omega)
    have d2 : ∀ m, (mlC m Z8).drop 1 = Z8.flatMap rowC := fun m => rfl
    have d3 : ∀ m, (mlC m Z8).all Sc.one = true := fun m => rfl
    have d4 : ∀ m, .i m :: Z8.flatMap rowC = mlC m Z8 := fun m => rfl
    have d5 : ∀ m, (mlC m Z8).take 321 = mlC m Z8 := fun m => List.take_of_length_le (by rw [l0]; omega)
    by_cases h1 : n < 1
    · have e : (if 1 ≤ n ∧ n ≤ 8 then n else 0) = 0 := if_neg (by omega)
      (try simp (config := { maxSteps := 10000000 }) only [go_sem, seval, h1, e, zMail, l0, d1, d2, d3, d4, d5]; repeat (simp (disch := omega) only [w64_d, ipos, ineg, dpos, dneg]; try simp (config := { maxSteps := 10000000 }) only [go_sem, seval, h1, e, zMail, l0, d1, d2, d3, d4, d5]))
    by_cases h2 : 8 < n
    · have e : (if 1 ≤ n ∧ n ≤ 8 then n else 0) = 0 := if_neg (by omega)
      (try simp (config := { maxSteps := 10000000 }) only [go_sem, seval, h1, h2, e, zMail, l0, d1, d2, d3, d4, d5]; repeat (simp (disch := omega) only [w64_d, ipos, ineg, dpos, dneg]; try simp (config := { maxSteps := 10000000 }) only [go_sem, seval, h1, h2, e, zMail, l0, d1, d2, d3, d4, d5]))
    · have e : (if 1 ≤ n ∧ n ≤ 8 then n else 0) = n := if_pos (by omega)
      (try simp (config := { maxSteps := 10000000 }) only [go_sem, seval, h1, h2, e, zMail, l0, d1, d2, d3, d4, d5]; repeat (simp (disch := omega) only [w64_d, ipos, ineg, dpos, dneg]; try simp (config := { maxSteps := 10000000 }) only [go_sem, seval, h1, h2, e, zMail, l0, d1, d2, d3, d4, d5]))
  · simp at h

end
end Go.Proofs.YtcbhelkafelofaaGreat
namespace Go.Proofs.YtcbhelkafelofaaGreat
open Go.Am
set_option linter.unusedSimpArgs false
set_option linter.unusedVariables false
noncomputable section

def e8F (x : Int) : List Sc := [.k .u8 x]
theorem e8F_l (x : Int) : (e8F x).length = 1 := rfl
def d8F : List Sc → Option Int
  | [.k .u8 x] => some x
  | _ => none
def byF : List Sc → Option (List Int)
  | [] => some []
  | .k .u8 n :: r => (byF r).map (n :: ·)
  | _ => none
theorem byF_inv {cs : List Sc} {L : List Int} (h : byF cs = some L) : cs = L.flatMap e8F := by
  induction cs generalizing L with
  | nil => simp [byF] at h; subst h; rfl
  | cons a r ih =>
    unfold byF at h
    split at h
    · simp_all
    · rename_i n r' heq
      simp only [List.cons.injEq] at heq
      obtain ⟨rfl, rfl⟩ := heq
      rw [Option.map_eq_some_iff] at h
      obtain ⟨l', h5, rfl⟩ := h
      rw [ih h5]; rfl
    · simp at h
theorem byF_of (L : List Int) : byF (L.flatMap e8F) = some L := by
  induction L with
  | nil => rfl
  | cons a r ih => rw [List.flatMap_cons]; simp [e8F, byF, ih]
def cutF (H : AH) : Sc → Option (List Int)
  | .nils => some []
  | .sl id off v n => if v = (hg H id).row ∧ off + n ≤ (hg H id).cells.length then byF (((hg H id).cells.drop off).take n) else none
  | _ => none
theorem cutF_inv {H : AH} {x : Sc} {L : List Int} (h : cutF H x = some L) : (x = .nils ∧ L = []) ∨ ∃ id off, x = .sl id off (hg H id).row L.length ∧ off + L.length ≤ (hg H id).cells.length ∧ ((hg H id).cells.drop off).take L.length = L.flatMap e8F := by
  unfold cutF at h
  split at h
  · simp only [Option.some.injEq] at h; exact .inl ⟨rfl, h.symm⟩
  · rename_i id off v n
    split at h
    · rename_i hc
      obtain ⟨rfl, hc⟩ := hc
      have e := byF_inv h
      have l : n = L.length := by
        have := congrArg List.length e
        rw [fm_len e8F_l, List.length_take, List.length_drop] at this
        omega
      subst l
      exact .inr ⟨id, off, rfl, hc, e⟩
    · simp at h
  · simp at h
def stF (b : Int) (v : BitVec 64) : BitVec 64 := (v <<< 8) ||| (BitVec.ofInt 64 b)
def numW (L : List Int) : BitVec 64 := L.foldr stF 0#64
theorem numW_app (L M : List Int) : numW (L ++ M) = L.foldr stF (numW M) := by unfold numW; rw [List.foldr_append]
def s_fnum (args : List AV) (H : AH) : Option AV :=
  match args with
  | [.c x, .c y] =>
    match cutF H x, cutF H y with
    | some L, some M => if L.length ≤ 1000000 ∧ M.length ≤ 1000000 then some (.c (.u (numW (L ++ M)))) else none
    | _, _ => none
  | _ => none
theorem s_fnum_eq {x y : Sc} {H : AH} {L M : List Int} (h1 : cutF H x = some L) (h2 : cutF H y = some M) (h3 : L.length ≤ 1000000) (h4 : M.length ≤ 1000000) : s_fnum [.c x, .c y] H = some (.c (.u (numW (L ++ M)))) := by
  simp only [s_fnum, h1, h2]; rw [if_pos ⟨h3, h4⟩]
end
end Go.Proofs.YtcbhelkafelofaaGreat
namespace Go.Proofs.YtcbhelkafelofaaGreat
open Go.Am
set_option linter.unusedSimpArgs false
set_option linter.unusedVariables false
noncomputable section

theorem getF_cases (fr : Fr) (s : Nat) : Am.get fr s = .c .any ∨ ∃ p ∈ fr, p.1 = s ∧ Am.get fr s = p.2 := by
  induction fr with
  | nil => exact .inl rfl
  | cons a r ih =>
    obtain ⟨d, v⟩ := a
    by_cases h : d = s
    · exact .inr ⟨(d, v), by simp, h, by simp [Am.get, h]⟩
    · have e : Am.get ((d, v) :: r) s = Am.get r s := by simp [Am.get, h]
      rw [e]
      rcases ih with h1 | ⟨p, h1, h2, h3⟩
      · exact .inl h1
      · exact .inr ⟨p, by simp [h1], h2, h3⟩
theorem wkF {n : Nat} {fr fr' : Fr} {H : AH} (hf : ∀ p ∈ fr', Am.get fr p.1 = p.2) : Wk n fr H (fr', H) := fun ρ w tm h1 h2 =>
  ⟨ρ, fun s => by
    show VRel ρ (Am.get fr' s) (tm s)
    rcases getF_cases fr' s with e | ⟨p, hp, rfl, e⟩
    · rw [e]; exact trivial
    · rw [e, ← hf p hp]; exact h1 p.1, h2, fun i _ hi hL _ => ⟨i, hi, hL⟩, fun _ _ => rfl⟩
theorem stF_step {M : List Int} {r i : Nat} {b : Int} (v : BitVec 64) (hlt : r < M.length) (hi : i = M.length - 1 - r) (hb : M[i]? = some b) : (M.drop (M.length - (r + 1))).foldr stF v = ((M.drop (M.length - r)).foldr stF v <<< 8) ||| (BitVec.ofInt 64 b) := by
  have hi2 : i < M.length := by omega
  rw [show M.length - (r + 1) = i by omega, show M.length - r = i + 1 by omega, List.drop_eq_getElem_cons hi2]
  rw [List.getElem?_eq_getElem hi2] at hb
  simp only [Option.some.injEq] at hb
  rw [List.foldr_cons, hb]; rfl
set_option maxRecDepth 100000 in
set_option maxHeartbeats 2000000 in
theorem ok_fnum : FpOk Tryz.prog 30 (fun args H => (s_fnum args H).map fun v => (v, H)) := by
  refine fq_ok (s := s_fnum) (tab := []) hmix TabOk.nil Tryz.func30 rfl Tryz.results30 Tryz.ntmps30 (by kernel_rfl) (by kernel_rfl) ?_
  intro args H v h hargs hH
  unfold s_fnum at h
  split at h
  · rename_i x y
    split at h
    · rename_i L M hL hM
      split at h
      · rename_i hc
        obtain ⟨c1, c2⟩ := hc
        simp only [Option.some.injEq] at h
        subst h
        refine ⟨by simp only [List.length_cons, List.length_nil]; decide, rfl, ?_⟩
        rw [numW_app]
        have hx1 : (AV.c x).cells = some [x] := by rcases cutF_inv hL with ⟨rfl, _⟩ | ⟨i, o, rfl, _⟩ <;> rfl
        have hy1 : (AV.c y).cells = some [y] := by rcases cutF_inv hM with ⟨rfl, _⟩ | ⟨i, o, rfl, _⟩ <;> rfl
        have hx2 := hx1
        have hy2 := hy1
        simp only [AV.cells] at hx2 hy2
        (try simp (config := { maxSteps := 10000000 }) only [go_sem, seval, hx2, hy2]; repeat (simp (disch := omega) only [w64_d, ipos, ineg, dpos, dneg]; try simp (config := { maxSteps := 10000000 }) only [go_sem, seval, hx2, hy2]))
        refine arun_for 2 (fun k => ([(0, .c x), (1, .c y), (4, .c (.u 0#64)), (5, .c (.u (if k = 0 then 0#64 else if k = 1 then numW M else L.foldr stF (numW M)))), (11, .g [y, x]), (12, .c (.i k))], H)) (wkF (by simp [Am.get])) fun k hk => ?_
        by_cases k2 : k = 2
        · subst k2
          (try simp (config := { maxSteps := 10000000 }) only [go_sem, seval]; repeat (simp (disch := omega) only [w64_d, ipos, ineg, dpos, dneg]; try simp (config := { maxSteps := 10000000 }) only [go_sem, seval]))
          exact subH_refl _
        have xl : ∀ e, lenB (.sl e) (.c x) = some (.c (.i L.length)) := by rcases cutF_inv hL with ⟨rfl, rfl⟩ | ⟨i, o, rfl, _⟩ <;> intro e <;> rfl
        have yl : ∀ e, lenB (.sl e) (.c y) = some (.c (.i M.length)) := by rcases cutF_inv hM with ⟨rfl, rfl⟩ | ⟨i, o, rfl, _⟩ <;> intro e <;> rfl
        rcases (show k = 0 ∨ k = 1 by omega) with rfl | rfl
        · have w1 : w64 ((M.length : Int) - 1) = (M.length : Int) - 1 := w64_d (by omega) (by omega)
          (try simp (config := { maxSteps := 10000000 }) only [go_sem, seval, hx2, hy2, xl, yl, w1]; repeat (simp (disch := omega) only [w64_d, ipos, ineg, dpos, dneg]; try simp (config := { maxSteps := 10000000 }) only [go_sem, seval, hx2, hy2, xl, yl, w1]))
          refine arun_for M.length (fun r => ([(0, .c x), (1, .c y), (4, .c (.u 0#64)), (5, .c (.u ((M.drop (M.length - r)).foldr stF 0#64))), (7, .c y), (8, .c (.i ((M.length : Int) - 1 - r))), (11, .g [y, x]), (12, .c (.i 0))], H)) (wkF (by simp [Am.get])) fun r hr => ?_
          by_cases hlt : r < M.length
          rotate_left
          · obtain rfl : r = M.length := by omega
            have e0 : ((M.length : Int) - 1 - (M.length : Int)) = -1 := by omega
            have d0 : M.drop (M.length - M.length) = M := by rw [Nat.sub_self]; rfl
            (try simp (config := { maxSteps := 10000000 }) only [go_sem, seval, e0, d0, hx2, hy2, xl, yl]; repeat (simp (disch := omega) only [w64_d, ipos, ineg, dpos, dneg]; try simp (config := { maxSteps := 10000000 }) only [go_sem, seval, e0, d0, hx2, hy2, xl, yl]))
            exact ⟨1, by omega, by omega, wkF (by simp [Am.get, numW])⟩
          obtain ⟨i, hi⟩ : ∃ i, i = M.length - 1 - r := ⟨_, rfl⟩
          have e0 : ((M.length : Int) - 1 - (r : Int)) = (i : Int) := by omega
          have e1 : w64 ((i : Int) - 1) = (i : Int) - 1 := w64_d (by omega) (by omega)
          have k0 : (0 : Int) ≤ (i : Int) := by omega
          rcases cutF_inv hM with ⟨rfl, rfl⟩ | ⟨j, p, rfl, hp, ep⟩
          · simp at hlt
          have kI : ((i : Int) < (M.length : Int)) := by omega
          obtain ⟨b, hb⟩ : ∃ b, M[i]? = some b := ⟨_, List.getElem?_eq_getElem (by omega)⟩
          have b1 : (p + i + 1 ≤ (hg H j).cells.length) = True := eq_true (by omega)
          have b2 : (hg H j).cells.getD (p + i) .any = .k .u8 b := by
            have := congrArg (fun l => l.getD i .any) ep
            simp only [List.getD_eq_getElem?_getD, List.getElem?_take, List.getElem?_drop] at this ⊢
            rw [if_pos (by omega)] at this
            rw [this]
            have g := fm1 (f := e8F) (g := Sc.k .u8) (fun _ => rfl) hb
            simpa [List.getD_eq_getElem?_getD] using g
          (try simp (config := { maxSteps := 10000000 }) only [go_sem, seval, e0, e1, k0, kI, b1, b2, hx2, xl]; repeat (simp (disch := omega) only [w64_d, ipos, ineg, dpos, dneg]; try simp (config := { maxSteps := 10000000 }) only [go_sem, seval, e0, e1, k0, kI, b1, b2, hx2, xl]))
          have st := stF_step 0#64 hlt hi hb
          have e4 : (i : Int) - 1 = (M.length : Int) - 1 - ((r + 1 : Nat) : Int) := by omega
          rw [← st, e4]
          exact ⟨r + 1, by omega, by omega, wkF (by simp [Am.get])⟩
        · have w1 : w64 ((L.length : Int) - 1) = (L.length : Int) - 1 := w64_d (by omega) (by omega)
          (try simp (config := { maxSteps := 10000000 }) only [go_sem, seval, hx2, hy2, xl, yl, w1]; repeat (simp (disch := omega) only [w64_d, ipos, ineg, dpos, dneg]; try simp (config := { maxSteps := 10000000 }) only [go_sem, seval, hx2, hy2, xl, yl, w1]))
          refine arun_for L.length (fun r => ([(0, .c x), (1, .c y), (4, .c (.u 0#64)), (5, .c (.u ((L.drop (L.length - r)).foldr stF (numW M)))), (7, .c x), (8, .c (.i ((L.length : Int) - 1 - r))), (11, .g [y, x]), (12, .c (.i 1))], H)) (wkF (by simp [Am.get])) fun r hr => ?_
          by_cases hlt : r < L.length
          rotate_left
          · obtain rfl : r = L.length := by omega
            have e0 : ((L.length : Int) - 1 - (L.length : Int)) = -1 := by omega
            have d0 : L.drop (L.length - L.length) = L := by rw [Nat.sub_self]; rfl
            (try simp (config := { maxSteps := 10000000 }) only [go_sem, seval, e0, d0, hx2, hy2, xl, yl]; repeat (simp (disch := omega) only [w64_d, ipos, ineg, dpos, dneg]; try simp (config := { maxSteps := 10000000 }) only [go_sem, seval, e0, d0, hx2, hy2, xl, yl]))
            exact ⟨2, by omega, by omega, wkF (by simp [Am.get, numW])⟩
          obtain ⟨i, hi⟩ : ∃ i, i = L.length - 1 - r := ⟨_, rfl⟩
          have e0 : ((L.length : Int) - 1 - (r : Int)) = (i : Int) := by omega
          have e1 : w64 ((i : Int) - 1) = (i : Int) - 1 := w64_d (by omega) (by omega)
          have k0 : (0 : Int) ≤ (i : Int) := by omega
          rcases cutF_inv hL with ⟨rfl, rfl⟩ | ⟨j, p, rfl, hp, ep⟩
          · simp at hlt
          have kI : ((i : Int) < (L.length : Int)) := by omega
          obtain ⟨b, hb⟩ : ∃ b, L[i]? = some b := ⟨_, List.getElem?_eq_getElem (by omega)⟩
          have b1 : (p + i + 1 ≤ (hg H j).cells.length) = True := eq_true (by omega)
          have b2 : (hg H j).cells.getD (p + i) .any = .k .u8 b := by
            have := congrArg (fun l => l.getD i .any) ep
            simp only [List.getD_eq_getElem?_getD, List.getElem?_take, List.getElem?_drop] at this ⊢
            rw [if_pos (by omega)] at this
            rw [this]
            have g := fm1 (f := e8F) (g := Sc.k .u8) (fun _ => rfl) hb
            simpa [List.getD_eq_getElem?_getD] using g
          (try simp (config := { maxSteps := 10000000 }) only [go_sem, seval, e0, e1, k0, kI, b1, b2, hy2, yl]; repeat (simp (disch := omega) only [w64_d, ipos, ineg, dpos, dneg]; try simp (config := { maxSteps := 10000000 }) only [go_sem, seval, e0, e1, k0, kI, b1, b2, hy2, yl]))
          have st := stF_step (numW M) hlt hi hb
          have e4 : (i : Int) - 1 = (L.length : Int) - 1 - ((r + 1 : Nat) : Int) := by omega
          rw [← st, e4]
          exact ⟨r + 1, by omega, by omega, wkF (by simp [Am.get])⟩
      · simp at h
    · simp at h
  · simp at h
end
end Go.Proofs.YtcbhelkafelofaaGreat
namespace Go.Proofs.YtcbhelkafelofaaGreat
open Go.Am
set_option linter.unusedSimpArgs false
set_option linter.unusedVariables false
noncomputable section
set_option maxRecDepth 100000

theorem fin_sameF {n : Nat} {v : AV} {H : AH} : ∃ v', some v = some v' ∧ Wk n [(0, v')] H ([(0, v)], H) :=
  ⟨_, rfl, fun ρ _ _ h1 h2 => ⟨ρ, h1, h2, fun i _ hi hL _ => ⟨i, hi, hL⟩, fun _ _ => rfl⟩⟩
def fcC (n : Int) (i : Nat) : List Sc := .i n :: .u 0#64 :: (List.replicate i (.u 18446744073709551615#64) ++ (List.replicate (8 - i) (.u 0#64) ++ List.replicate 8 (.b false)))
theorem fcC_l {n : Int} {i : Nat} (h : i ≤ 8) : (fcC n i).length = 18 := by unfold fcC; simp; omega
theorem fcC_wr {n : Int} {i : Nat} (h : i < 8) : List.take (2 + i) (fcC n i) ++ Sc.u 18446744073709551615#64 :: List.drop (2 + i + 1) (fcC n i) = fcC n (i + 1) := by
  have : i = 0 ∨ i = 1 ∨ i = 2 ∨ i = 3 ∨ i = 4 ∨ i = 5 ∨ i = 6 ∨ i = 7 := by omega
  rcases this with rfl | rfl | rfl | rfl | rfl | rfl | rfl | rfl <;> rfl
theorem fcC_pf (n : Int) (i : Nat) : (fcC n i).all Sc.pf = true := by
  simp only [fcC, List.all_cons, List.all_append, List.all_replicate]
  simp [Sc.pf]
theorem fcC_one (n : Int) (i : Nat) : (fcC n i).all Sc.one = true := by
  simp only [fcC, List.all_cons, List.all_append, List.all_replicate]
  simp [Sc.one]
theorem Wk.frqF {n : Nat} {fr : Fr} {H : AH} {p : Fr × AH} (e : H = p.2) (h : Wk n fr H (p.1, H)) : Wk n fr H p := by subst e; exact h
def s_fcnew (args : List AV) : Option AV :=
  match args with
  | [.c (.i h)] => if 1 ≤ h ∧ h ≤ 8 then some (.g (fcC h h.toNat)) else none
  | _ => none
theorem s_fcnew_eq {h} : s_fcnew [.c (.i h)] = if 1 ≤ h ∧ h ≤ 8 then some (.g (fcC h h.toNat)) else none := rfl
set_option maxRecDepth 100000 in
set_option maxHeartbeats 2000000 in
theorem ok_fcnew : PuOk Tryz.prog 84 s_fcnew := by
  refine pu_ok (tab := []) hmix TabOk.nil Tryz.func84 rfl Tryz.results84 Tryz.ntmps84 (by kernel_rfl) (by kernel_rfl) ?_
  intro args v h
  unfold s_fcnew at h
  split at h
  · rename_i h
    split at h
    · rename_i hc
      simp only [Option.some.injEq] at h; subst h
      have pp := fcC_pf h h.toNat
      refine ⟨by simp only [List.length_cons, List.length_nil]; decide, by first | rfl | simp only [List.all_cons, List.all_nil, AV.pf, Sc.pf, Bool.and_true, *], by first | rfl | simp only [List.all_cons, List.all_nil, AV.pf, Sc.pf, Bool.and_true, *], ?_⟩
      have c1 : ¬ h < 1 := by omega
      have c2 : ¬ 8 < h := by omega
      obtain ⟨m, rfl⟩ : ∃ m : Nat, h = (m : Int) := ⟨h.toNat, by omega⟩
      rw [Int.toNat_natCast]
      (try simp (config := { maxSteps := 10000000 }) only [go_sem, seval, c1, c2]; repeat (simp (disch := omega) only [w64_d, ipos, ineg, dpos, dneg]; try simp (config := { maxSteps := 10000000 }) only [go_sem, seval, c1, c2]))
      refine arun_for m (fun i => ([(0, .c (.i m)), (2, .c (.p 0 0 0)), (3, .c (.p 1 0 0)), (14, .c (.i m)), (15, .c (.i i))], [.own (fcC 0 0), .own (fcC m i)])) (Wk.frqF rfl (wkF (by simp [Am.get]))) fun i hi => ?_
      have ll := fcC_l (n := m) (i := i) (by omega)
      by_cases hlt : i < m
      · have w := fcC_wr (n := m) (i := i) (by omega)
        have e0 : (i : Int) < (m : Int) := by omega
        have e1 : w64 ((i : Int) + 1) = ((i + 1 : Nat) : Int) := by rw [w64_d (by omega) (by omega)]; omega
        (try simp (config := { maxSteps := 10000000 }) only [go_sem, seval, e0, e1, w, Int.toNat_natCast]; repeat (simp (disch := omega) only [w64_d, ipos, ineg, dpos, dneg]; try simp (config := { maxSteps := 10000000 }) only [go_sem, seval, e0, e1, w, Int.toNat_natCast]))
        exact ⟨i + 1, by omega, by omega, wkF (by simp [Am.get])⟩
      · obtain rfl : i = m := by omega
        have t18 : List.take 18 (fcC i i) = fcC i i := List.take_of_length_le (by omega)
        have l0 : (fcC 0 0).length = 18 := rfl
        have one := fcC_one i i
        have dn : List.drop 18 (fcC 0 0) = [] := rfl
        (try simp (config := { maxSteps := 10000000 }) only [go_sem, seval, t18, ll, l0, one, dn]; repeat (simp (disch := omega) only [w64_d, ipos, ineg, dpos, dneg]; try simp (config := { maxSteps := 10000000 }) only [go_sem, seval, t18, ll, l0, one, dn]))
        done
    · simp at h
  · simp at h
def fpC (n : Int) : List Sc := .i n :: (List.replicate 32 (.k .u8 0) ++ (.k .u32 0 :: .k .u32 0 :: .k .u32 0 :: (List.replicate 16 (.k .u32 0) ++ List.replicate 16 (.k .u8 0))))
theorem fpC_l (n : Int) : (fpC n).length = 68 := rfl
theorem fpC_pf (n : Int) : (fpC n).all Sc.pf = true := rfl
theorem fpC_one (n : Int) : (fpC n).all Sc.one = true := rfl
def s_fpnew (args : List AV) : Option AV :=
  match args with
  | [.c (.i h)] => if 1 ≤ h ∧ h ≤ 8 then some (.g (fpC h)) else none
  | _ => none
theorem s_fpnew_eq {h} : s_fpnew [.c (.i h)] = if 1 ≤ h ∧ h ≤ 8 then some (.g (fpC h)) else none := rfl
set_option maxRecDepth 100000 in
set_option maxHeartbeats 2000000 in
theorem ok_fpnew : PuOk Tryz.prog 85 s_fpnew := by
  refine pu_ok (tab := []) hmix TabOk.nil Tryz.func85 rfl Tryz.results85 Tryz.ntmps85 (by kernel_rfl) (by kernel_rfl) ?_
  intro args v h
  unfold s_fpnew at h
  split at h
  · rename_i h
    split at h
    · rename_i hc
      simp only [Option.some.injEq] at h; subst h
      have pp := fpC_pf h
      refine ⟨by simp only [List.length_cons, List.length_nil]; decide, by first | rfl | simp only [List.all_cons, List.all_nil, AV.pf, Sc.pf, Bool.and_true, *], by first | rfl | simp only [List.all_cons, List.all_nil, AV.pf, Sc.pf, Bool.and_true, *], ?_⟩
      have c1 : ¬ h < 1 := by omega
      have c2 : ¬ 8 < h := by omega
      (try simp (config := { maxSteps := 10000000 }) only [go_sem, seval, c1, c2]; repeat (simp (disch := omega) only [w64_d, ipos, ineg, dpos, dneg]; try simp (config := { maxSteps := 10000000 }) only [go_sem, seval, c1, c2]))
      rfl
    · simp at h
  · simp at h
def foC : List Sc := [.k .u8 0, .k .u8 0, .k .u8 0, .k .u8 0, .k .u8 0, .k .u8 0, .b false, .b false, .b false, .nils, .nils]
def s_funew (args : List AV) (H : AH) : Option (AV × AH) :=
  match args with
  | [] => some (.c (.p H.length 0 0), H ++ [.own foC])
  | _ => none
theorem len_funew (args : List AV) (H : AH) (v : AV) (H1 : AH) (h : s_funew args H = some (v, H1)) : H.length ≤ H1.length := by
  unfold s_funew at h
  split at h
  · simp at h; rw [← h.2]; simp
  · simp at h
set_option maxRecDepth 100000 in
set_option maxHeartbeats 2000000 in
theorem ok_funew : FpOk Tryz.prog 83 s_funew := by
  refine fp_ok (s := s_funew) (tab := []) hmix TabOk.nil Tryz.func83 rfl Tryz.results83 Tryz.ntmps83 (by kernel_rfl) (by kernel_rfl) len_funew ?_
  intro args H v H1 h hargs hH
  unfold s_funew at h
  split at h
  · simp only [Option.some.injEq, Prod.mk.injEq] at h
    obtain ⟨rfl, rfl⟩ := h
    refine ⟨by simp only [List.length_cons, List.length_nil]; decide, ?_⟩
    (try simp (config := { maxSteps := 10000000 }) only [go_sem, seval]; repeat (simp (disch := omega) only [w64_d, ipos, ineg, dpos, dneg]; try simp (config := { maxSteps := 10000000 }) only [go_sem, seval]))
    exact fin_sameF
  · simp at h
theorem s_funew_eq {H : AH} : s_funew [] H = some (.c (.p H.length 0 0), H ++ [.own foC]) := rfl
def fbC (m : Nat) (n : Int) : List Sc := .p m 0 0 :: .i n :: (fcC n n.toNat ++ fpC n)
def s_fbnew (args : List AV) (H : AH) : Option (AV × AH) :=
  match args with
  | [.c (.i n)] => if 1 ≤ n ∧ n ≤ 8 then some (.t [.c (.p (H.length + 1) 0 0), .c (.i 0)], H ++ [.own foC, .own (fbC H.length n)]) else none
  | _ => none
theorem s_fbnew_eq {H : AH} {n : Int} (h : 1 ≤ n ∧ n ≤ 8) : s_fbnew [.c (.i n)] H = some (.t [.c (.p (H.length + 1) 0 0), .c (.i 0)], H ++ [.own foC, .own (fbC H.length n)]) := if_pos h
theorem len_fbnew (args : List AV) (H : AH) (v : AV) (H1 : AH) (h : s_fbnew args H = some (v, H1)) : H.length ≤ H1.length := by
  unfold s_fbnew at h
  repeat' split at h
  · simp at h; rw [← h.2]; simp
  · simp at h
  · simp at h
set_option maxRecDepth 100000 in
set_option maxHeartbeats 2000000 in
theorem ok_fbnew : FpOk Tryz.prog 45 s_fbnew := by
  refine fp_ok (s := s_fbnew) (tab := [(83, .fp s_funew), (84, .pu s_fcnew), (85, .pu s_fpnew)]) hmix (TabOk.cons (e := .fp s_funew) ok_funew (TabOk.cons (e := .pu s_fcnew) ok_fcnew (TabOk.cons (e := .pu s_fpnew) ok_fpnew TabOk.nil))) Tryz.func45 rfl Tryz.results45 Tryz.ntmps45 (by kernel_rfl) (by kernel_rfl) len_fbnew ?_
  intro args H v H1 h hargs hH
  unfold s_fbnew at h
  split at h
  · rename_i n
    refine ⟨by simp only [List.length_cons, List.length_nil]; decide, ?_⟩
    split at h <;> try (simp at h; done)
    rename_i hn
    simp only [Option.some.injEq, Prod.mk.injEq] at h
    obtain ⟨rfl, rfl⟩ := h
    have c1 : ¬ n < 1 := by omega
    have c2 : ¬ 8 < n := by omega
    have l1 := fcC_l (n := n) (i := n.toNat) (by omega)
    have l2 := fpC_l n
    have o1 := fcC_one n n.toNat
    have o2 := fpC_one n
    have t1 : ∀ m : List Sc, List.take 18 (fcC n n.toNat ++ m) = fcC n n.toNat := fun m => List.take_left' l1
    have t3 : ∀ m : List Sc, List.drop 86 (fcC n n.toNat ++ m) = List.drop 68 m := fun m => by rw [List.drop_append, l1, List.drop_of_length_le (by omega), List.nil_append]
    have t2 : List.take 68 (fpC n) = fpC n := List.take_of_length_le (by omega)
    have e1 : s_fcnew [.c (.i n)] = some (.g (fcC n n.toNat)) := s_fcnew_eq.trans (if_pos hn)
    have e2 : s_fpnew [.c (.i n)] = some (.g (fpC n)) := s_fpnew_eq.trans (if_pos hn)
    (try simp (config := { maxSteps := 10000000 }) only [go_sem, seval, s_funew_eq, e1, e2, c1, c2, l1, l2, o1, o2, t1, t2, t3]; repeat (simp (disch := omega) only [w64_d, ipos, ineg, dpos, dneg]; try simp (config := { maxSteps := 10000000 }) only [go_sem, seval, s_funew_eq, e1, e2, c1, c2, l1, l2, o1, o2, t1, t2, t3]))
    exact fin_sameF
  · simp at h
end
end Go.Proofs.YtcbhelkafelofaaGreat
