/- Layer 27: the document's walk: the contract. -/
import Derived.Test.YtanblagbkhpolaaWk3
namespace Go.Proofs.Ytanblagbkhpolaa
open Go.Am
set_option linter.unusedSimpArgs false
set_option linter.unusedVariables false
noncomputable section

def isA (l : List Sc) : Prop := ∃ d g m, l = .u d :: .b g :: m ∧ m.length = 40 ∧ m.all Sc.one = true
instance (l : List Sc) : Decidable (isA l) := Classical.propDecidable _
abbrev Ans := {l : List Sc // isA l}
def encN (a : Ans) : List Sc := a.1
def dcN (cs : List Sc) : Option Ans := if h : isA cs then some ⟨cs, h⟩ else none
theorem dcN_e (a : Ans) : dcN (encN a) = some a := by unfold dcN encN; rw [dif_pos a.2]
theorem dcN_d (cs : List Sc) (a : Ans) (h : dcN cs = some a) : cs = encN a := by
  unfold dcN at h
  split at h
  · simp only [Option.some.injEq] at h; subst h; rfl
  · simp at h
theorem encN_l (a : Ans) : (encN a).length = 42 := by
  obtain ⟨d, g, m, e, lm, _⟩ := a.2
  unfold encN; rw [e]; simp [lm]
def dN (a : Ans) : BitVec 64 := match a.1 with
  | .u d :: _ => d
  | _ => 0#64
def gN (a : Ans) : Bool := match a.1 with
  | _ :: .b g :: _ => g
  | _ => false
theorem encN_e (a : Ans) : ∃ m, encN a = .u (dN a) :: .b (gN a) :: m ∧ m.length = 40 ∧ m.all Sc.one = true := by
  obtain ⟨l, d, g, m, rfl, h1, h2⟩ := a
  exact ⟨m, rfl, h1, h2⟩
def prN (L : List Ans) : List (BitVec 64 × Bool) := L.map fun a => (dN a, gN a)
/-- a slice from its object's begin, a part of it, read back -/
def slP {α : Type} (w : Nat) (dc : List Sc → Option α) (H : AH) : Sc → Option (List α)
  | .nils => some []
  | .sl id 0 v n => if v = (hg H id).row ∧ n * w ≤ (hg H id).cells.length then decN w dc n ((hg H id).cells.take (n * w)) else none
  | _ => none
theorem slP_inv {α : Type} {w : Nat} {dc : List Sc → Option α} {f : α → List Sc} (hd : ∀ cs x, dc cs = some x → cs = f x) {H : AH} {x : Sc} {L : List α} (h : slP w dc H x = some L) : (x = .nils ∧ L = []) ∨ ∃ id v, x = .sl id 0 v L.length ∧ v = (hg H id).row ∧ L.length * w ≤ (hg H id).cells.length ∧ (hg H id).cells.take (L.length * w) = L.flatMap f := by
  unfold slP at h
  split at h
  · simp at h; exact .inl ⟨rfl, h⟩
  · split at h
    · rename_i id v n hc
      obtain ⟨e1, e2⟩ := decN_dec hd n _ _ (by rw [List.length_take, Nat.min_eq_left hc.2]) h
      subst e1
      exact .inr ⟨id, v, rfl, hc.1, hc.2, e2⟩
    · simp at h
  · simp at h
theorem slP_of {α : Type} {w : Nat} {dc : List Sc → Option α} {f : α → List Sc} (h : ∀ x, (f x).length = w) (hd : ∀ x, dc (f x) = some x) {H : AH} {id v : Nat} {L : List α} {k : Nat} (hv : v = (hg H id).row) (hk : k ≤ L.length) (hc : (hg H id).cells = L.flatMap f) : slP w dc H (.sl id 0 v k) = some (L.take k) := by
  have e : (L.flatMap f).take (k * w) = (L.take k).flatMap f := by
    have l1 : ((L.take k).flatMap f).length = k * w := by rw [fm_len h, List.length_take, Nat.min_eq_left hk]
    calc (L.flatMap f).take (k * w) = (((L.take k) ++ (L.drop k)).flatMap f).take (k * w) := by rw [List.take_append_drop]
      _ = (L.take k).flatMap f := by rw [List.flatMap_append, ← l1, List.take_left]
  have le : k * w ≤ (L.flatMap f).length := by rw [fm_len h]; exact Nat.mul_le_mul_right _ hk
  have := decN_enc h hd (L.take k)
  rw [List.length_take, Nat.min_eq_left hk] at this
  simp only [slP, hv, hc, le, and_self, if_true, e]
  exact this
/-- one cell of a part -/
theorem slP_cell {α : Type} {w : Nat} {f : α → List Sc} (h : ∀ x, (f x).length = w) {cs : List Sc} {L : List α} (hc : cs.take (L.length * w) = L.flatMap f) {k i : Nat} {x : α} (hx : L[k]? = some x) (hi : i < w) : cs.getD (k * w + i) .any = (f x).getD i .any := by
  rw [← fm_cell h hx hi, ← hc]
  have hk : k < L.length := by
    rcases Nat.lt_or_ge k L.length with h' | h'
    · exact h'
    · rw [List.getElem?_eq_none h'] at hx; simp at hx
  have : k * w + i < L.length * w := by
    have : (k + 1) * w ≤ L.length * w := Nat.mul_le_mul_right _ hk
    rw [Nat.add_mul, Nat.one_mul] at this
    omega
  rw [List.getD_eq_getElem?_getD, List.getD_eq_getElem?_getD, List.getElem?_take_of_lt this]

theorem subH_pre {A B : AH} (P : AH) (h : subH A B) : subH (P ++ A) (P ++ B) := by
  induction P with
  | nil => exact h
  | cons o P ih => exact ⟨.inr rfl, ih⟩
section
variable {s : Wst} {d : BitVec 64} {g : Bool} {r : List (BitVec 64 × Bool)} {lev : Int} {ppn : BitVec 64} {A : List AskR} {ag : Int}
theorem run_miss (h : hasW s.ln (ventryU ppn s.va lev) = false) {l : List (BitVec 64 × Bool)} : runR s l lev ppn A ag = (A, 3, e0C, ag) := by
  match l with
  | [] => unfold runR; rw [h]; rfl
  | [x] => unfold runR; rw [h]; rfl
  | x :: y :: r => unfold runR; rw [h]; rfl
theorem run_nil (h : hasW s.ln (ventryU ppn s.va lev) = true) : runR s [] lev ppn A ag = (A ++ [(7, ventryU ppn s.va lev, 0#64, 0#64)], 0, e0C, ag) := by unfold runR; rw [if_pos h]
theorem run_lead (h : hasW s.ln (ventryU ppn s.va lev) = true) (k1 : kindU d lev = 1) : runR s ((d, g) :: r) lev ppn A ag = runR s r (w64 (lev - 1)) (cutU d 10 44) (A ++ [(7, ventryU ppn s.va lev, 0#64, 0#64)]) ag := by
  match r with
  | [] =>
    conv => lhs; unfold runR
    rw [if_pos h, if_pos k1]
  | y :: r =>
    conv => lhs; unfold runR
    rw [if_pos h, if_pos k1]
theorem run_bad (h : hasW s.ln (ventryU ppn s.va lev) = true) (k1 : ¬ kindU d lev = 1) (k0 : kindU d lev = 0 ∨ letsB d s.ac s.pr s.su s.mx = false) : runR s ((d, g) :: r) lev ppn A ag = (A ++ [(7, ventryU ppn s.va lev, 0#64, 0#64)], 2, e0C, ag) := by
  match r with
  | [] =>
    rw [runR, if_pos h, if_neg k1]
    by_cases h0 : kindU d lev = 0
    · rw [if_pos h0]
    · rw [if_neg h0, if_pos (k0.resolve_left h0)]
  | y :: r =>
    rw [runR, if_pos h, if_neg k1]
    by_cases h0 : kindU d lev = 0
    · rw [if_pos h0]
    · rw [if_neg h0, if_pos (k0.resolve_left h0)]
theorem run_found (h : hasW s.ln (ventryU ppn s.va lev) = true) (k1 : ¬ kindU d lev = 1) (k0 : ¬ kindU d lev = 0) (hl : letsB d s.ac s.pr s.su s.mx = true) (hm : markU d s.ac = d) : runR s ((d, g) :: r) lev ppn A ag = (A ++ [(7, ventryU ppn s.va lev, 0#64, 0#64)], 1, entC (vpageU s.va lev) lev d, ag) := by
  match r with
  | [] => rw [runR, if_pos h, if_neg k1, if_neg k0, if_neg (by simp [hl]), if_pos hm]
  | y :: r => rw [runR, if_pos h, if_neg k1, if_neg k0, if_neg (by simp [hl]), if_pos hm]
theorem run_wait (h : hasW s.ln (ventryU ppn s.va lev) = true) (k1 : ¬ kindU d lev = 1) (k0 : ¬ kindU d lev = 0) (hl : letsB d s.ac s.pr s.su s.mx = true) (hm : ¬ markU d s.ac = d) : runR s [(d, g)] lev ppn A ag = (A ++ [(7, ventryU ppn s.va lev, 0#64, 0#64)] ++ [(8, ventryU ppn s.va lev, markU d s.ac, d)], 0, e0C, ag) := by
  rw [runR, if_pos h, if_neg k1, if_neg k0, if_neg (by simp [hl]), if_neg hm]
theorem run_good {d2 : BitVec 64} (h : hasW s.ln (ventryU ppn s.va lev) = true) (k1 : ¬ kindU d lev = 1) (k0 : ¬ kindU d lev = 0) (hl : letsB d s.ac s.pr s.su s.mx = true) (hm : ¬ markU d s.ac = d) : runR s ((d, g) :: (d2, true) :: r) lev ppn A ag = (A ++ [(7, ventryU ppn s.va lev, 0#64, 0#64)] ++ [(8, ventryU ppn s.va lev, markU d s.ac, d)], 1, entC (vpageU s.va lev) lev (markU d s.ac), ag) := by
  rw [runR, if_pos h, if_neg k1, if_neg k0, if_neg (by simp [hl]), if_neg hm, if_pos rfl]
theorem run_again {d2 : BitVec 64} (h : hasW s.ln (ventryU ppn s.va lev) = true) (k1 : ¬ kindU d lev = 1) (k0 : ¬ kindU d lev = 0) (hl : letsB d s.ac s.pr s.su s.mx = true) (hm : ¬ markU d s.ac = d) : runR s ((d, g) :: (d2, false) :: r) lev ppn A ag = runR s r 2 s.ro (A ++ [(7, ventryU ppn s.va lev, 0#64, 0#64)] ++ [(8, ventryU ppn s.va lev, markU d s.ac, d)]) (w64 (ag + 1)) := by
  rw [runR, if_pos h, if_neg k1, if_neg k0, if_neg (by simp [hl]), if_neg hm, if_neg (by simp)]
end
def qW (ln : Int) (ro va : BitVec 64) (ac pr : Int) (su mx : Bool) : Wst := ⟨true, ln, ro, va, ac, pr, su, mx, 0, 0, 0#64, 0#64, false, 0⟩
def resW (s : Wst) (l : List (BitVec 64 × Bool)) : List AskR × Int × List Sc × Int := if signU s.va 39 = s.va then runR s l 2 s.ro [] 0 else ([], 2, e0C, 0)
def resV (n : Nat) (R : List AskR × Int × List Sc × Int) : AV := .g ((if R.1 = [] then .nils else .sl n 0 (R.1.length * 19) R.1.length) :: .i R.2.1 :: (R.2.2.1 ++ [.i R.2.2.2]))
def resH (H : AH) (R : List AskR × Int × List Sc × Int) : AH := if R.1 = [] then H else H ++ [.dead, .dead, .dead, .dead, .vec 19 (R.1.flatMap encK)]
def s_rrun (args : List AV) (H : AH) : Option (AV × AH) :=
  match args with
  | [.g [.i ln, .u ro, .u va, .i ac, .i pr, .b su, .b mx], .c x] =>
    match slP 42 dcN H x with
    | some L => if L.length ≤ 40 then some (resV (H.length + 4) (resW (qW ln ro va ac pr su mx) (prN L)), resH H (resW (qW ln ro va ac pr su mx) (prN L))) else none
    | none => none
  | _ => none
theorem len_rrun (args : List AV) (H : AH) (v : AV) (H1 : AH) (h : s_rrun args H = some (v, H1)) : H.length ≤ H1.length := by
  unfold s_rrun at h
  split at h
  · split at h
    · split at h
      · simp only [Option.some.injEq, Prod.mk.injEq] at h
        rw [← h.2]
        unfold resH
        split <;> simp
      · simp at h
    · simp at h
  · simp at h
theorem encK_bel (A : List AskR) (n : Nat) : (A.flatMap encK).all (Sc.bel n) = true := by
  rw [List.all_eq_true]
  intro s hs
  rw [List.mem_flatMap] at hs
  obtain ⟨a, _, ha⟩ := hs
  have : (encK a).all (Sc.bel n) = true := rfl
  exact List.all_eq_true.1 this s ha
/-- the heap at a round's begin: the walk's quest, its answer, and what it asked -/
def rnH (H : AH) (s : Wst) (A : List AskR) (ag : Int) : AH :=
  H ++ (if A = [] then [.own (qC s), .own [.nils, .i 0, .i 0, .u 0#64, .i 0, .u 0#64, .i 0], .own [.nils, .i 0, .i 0, .u 0#64, .i 0, .u 0#64, .i ag]]
    else [.own (qC s), .own [.nils, .i 0, .i 0, .u 0#64, .i 0, .u 0#64, .i 0], .own [.sl (H.length + 4) 0 (A.length * 19) A.length, .i 0, .i 0, .u 0#64, .i 0, .u 0#64, .i ag], .dead, .vec 19 (A.flatMap encK)])
/-- an end: nothing was asked -/
theorem end_0 {H X : AH} {en ag : Int} {e : List Sc} (hH : belH H = true) (he : e = [.i 0, .u 0#64, .i 0, .u 0#64]) : ∃ v', some (AV.g [.nils, .i en, .i 0, .u 0#64, .i 0, .u 0#64, .i ag]) = some v' ∧ Wk H.length [(0, v')] (H ++ X) ([(0, resV (H.length + 4) ([], en, e, ag))], resH H ([], en, e, ag)) := by
  subst he
  exact ⟨_, rfl, Wk.wk (Nat.le_refl _) (by simp [Am.get, resV]) rfl (subH_app _ _) hH⟩
/-- an end: something was asked -/
theorem end_1 {H X : AH} {a b c d : AObj} {A : List AskR} {en ag l : Int} {p t : BitVec 64} {n m : Nat} {cs : List Sc} (hH : belH H = true) (hA : A ≠ []) (hn : n = A.length) (hm : m = A.length * 19) (hc : cs = A.flatMap encK) :
    ∃ v', some (AV.g [.sl (H.length + 4) 0 m n, .i en, .i 0, .u p, .i l, .u t, .i ag]) = some v' ∧ Wk H.length [(0, v')] (H ++ a :: b :: c :: d :: .vec 19 cs :: X) ([(0, resV (H.length + 4) (A, en, entC p l t, ag))], resH H (A, en, entC p l t, ag)) := by
  subst hn; subst hm; subst hc
  refine ⟨_, rfl, ?_⟩
  have e1 : resV (H.length + 4) (A, en, entC p l t, ag) = .g [.sl (H.length + 4) 0 (A.length * 19) A.length, .i en, .i 0, .u p, .i l, .u t, .i ag] := by simp [resV, hA, entC]
  have e2 : resH H (A, en, entC p l t, ag) = H ++ [.dead, .dead, .dead, .dead, .vec 19 (A.flatMap encK)] := by simp [resH, hA]
  rw [e1, e2]
  refine Wk.wk (by simp) (by simp [Am.get]) (by simp [AV.bel, Sc.bel]) (subH_pre H ⟨.inl rfl, .inl rfl, .inl rfl, .inl rfl, .inr rfl, trivial⟩) ?_
  simp only [List.all_append, List.all_cons, List.all_nil, Bool.and_true, Bool.and_eq_true, oc_vec, encK_bel, AObj.cells]
  refine List.all_eq_true.2 fun o ho => List.all_eq_true.2 fun s hs => ?_
  exact Sc.bel_mono (List.all_eq_true.1 (List.all_eq_true.1 hH o ho) s hs) (by simp)
end
end Go.Proofs.Ytanblagbkhpolaa
