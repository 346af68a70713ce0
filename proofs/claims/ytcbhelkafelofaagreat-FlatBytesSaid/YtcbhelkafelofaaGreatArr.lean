/- Rows of things: cells of a list, one behind the other; slices that are read. -/
import Derived.Test.YtcbhelkafelofaaGreatTy
namespace Go.Proofs.YtcbhelkafelofaaGreat
open Go.Am
set_option linter.unusedSimpArgs false
set_option linter.unusedVariables false
noncomputable section

section
variable {α : Type} {f : α → List Sc} {w : Nat}
theorem fm_len (h : ∀ x, (f x).length = w) : ∀ L : List α, (L.flatMap f).length = L.length * w
  | [] => by simp
  | x :: L => by rw [List.flatMap_cons, List.length_append, fm_len h L, h x, List.length_cons, Nat.add_mul, Nat.one_mul, Nat.add_comm]
theorem fm_drop (h : ∀ x, (f x).length = w) : ∀ (L : List α) (k : Nat), (L.flatMap f).drop (k * w) = (L.drop k).flatMap f
  | [], k => by simp
  | x :: L, 0 => by simp
  | x :: L, k + 1 => by
    rw [List.flatMap_cons, List.drop_succ_cons, ← fm_drop h L k]
    have e : (k + 1) * w = (f x).length + k * w := by rw [h x, Nat.add_mul, Nat.one_mul, Nat.add_comm]
    rw [e, ← List.drop_drop, List.drop_left]
theorem fm_get (h : ∀ x, (f x).length = w) {L : List α} {k : Nat} {x : α} (hx : L[k]? = some x) : ((L.flatMap f).drop (k * w)).take w = f x := by
  rw [fm_drop h]
  have hk : k < L.length := by
    rcases Nat.lt_or_ge k L.length with h | h
    · exact h
    · rw [List.getElem?_eq_none h] at hx; simp at hx
  rw [List.drop_eq_getElem_cons hk, List.flatMap_cons]
  rw [List.getElem?_eq_getElem hk] at hx
  simp only [Option.some.injEq] at hx
  rw [hx, ← h x, List.take_left]
theorem fm_cell (h : ∀ x, (f x).length = w) {L : List α} {k i : Nat} {x : α} (hx : L[k]? = some x) (hi : i < w) : (L.flatMap f).getD (k * w + i) .any = (f x).getD i .any := by
  have e := fm_get h hx
  rw [← e, List.getD_eq_getElem?_getD, List.getD_eq_getElem?_getD, List.getElem?_take_of_lt hi, List.getElem?_drop]
theorem fm_le (h : ∀ x, (f x).length = w) {L : List α} {k : Nat} (hk : k < L.length) : k * w + w ≤ (L.flatMap f).length := by
  rw [fm_len h]
  have : (k + 1) * w ≤ L.length * w := Nat.mul_le_mul_right _ hk
  rw [Nat.add_mul, Nat.one_mul] at this
  exact this
theorem fm_app {L M : List α} : (L ++ M).flatMap f = L.flatMap f ++ M.flatMap f := List.flatMap_append
end

/-- rows that are read back -/
def decN {α : Type} (w : Nat) (dc : List Sc → Option α) : Nat → List Sc → Option (List α)
  | 0, _ => some []
  | n + 1, cs =>
    match dc (cs.take w), decN w dc n (cs.drop w) with
    | some a, some l => some (a :: l)
    | _, _ => none
theorem decN_enc {α : Type} {w : Nat} {dc : List Sc → Option α} {f : α → List Sc} (h : ∀ x, (f x).length = w) (hd : ∀ x, dc (f x) = some x) : ∀ L : List α, decN w dc L.length (L.flatMap f) = some L
  | [] => rfl
  | x :: L => by
    simp only [List.length_cons, decN, List.flatMap_cons]
    rw [← h x, List.take_left, List.drop_left, hd, h x, decN_enc h hd L]
theorem decN_dec {α : Type} {w : Nat} {dc : List Sc → Option α} {f : α → List Sc} (hd : ∀ cs x, dc cs = some x → cs = f x) : ∀ (n : Nat) (cs : List Sc) (L : List α), cs.length = n * w → decN w dc n cs = some L → L.length = n ∧ cs = L.flatMap f := by
  intro n
  induction n with
  | zero => intro cs L h1 h2; simp [decN] at h2; subst h2; exact ⟨rfl, by simpa using h1⟩
  | succ n ih =>
    intro cs L h1 h2
    simp only [decN] at h2
    split at h2
    · rename_i a l e1 e2
      simp only [Option.some.injEq] at h2
      subst h2
      obtain ⟨g1, g2⟩ := ih _ _ (by rw [List.length_drop, h1, Nat.add_mul, Nat.one_mul]; omega) e2
      refine ⟨by simp [g1], ?_⟩
      rw [List.flatMap_cons, ← hd _ _ e1, ← g2, List.take_append_drop]
    · simp at h2
/-- a slice from its object's begin, read back -/
def slD {α : Type} (w : Nat) (dc : List Sc → Option α) (H : AH) : Sc → Option (List α)
  | .nils => some []
  | .sl id 0 v n => if v = (hg H id).row ∧ (hg H id).cells.length = n * w then decN w dc n (hg H id).cells else none
  | _ => none
theorem slD_nils {α : Type} {w : Nat} {dc : List Sc → Option α} {H : AH} : slD w dc H .nils = some [] := rfl
theorem slD_of {α : Type} {w : Nat} {dc : List Sc → Option α} {f : α → List Sc} (h : ∀ x, (f x).length = w) (hd : ∀ x, dc (f x) = some x) {H : AH} {id v n : Nat} {L : List α} (hv : v = (hg H id).row) (hn : n = L.length) (hc : (hg H id).cells = L.flatMap f) : slD w dc H (.sl id 0 v n) = some L := by
  subst hn
  simp only [slD, hv, hc, fm_len h, and_self, if_true]
  exact decN_enc h hd L
theorem slD_inv {α : Type} {w : Nat} {dc : List Sc → Option α} {f : α → List Sc} (hd : ∀ cs x, dc cs = some x → cs = f x) {H : AH} {x : Sc} {L : List α} (h : slD w dc H x = some L) : (x = .nils ∧ L = []) ∨ ∃ id v, x = .sl id 0 v L.length ∧ v = (hg H id).row ∧ (hg H id).cells = L.flatMap f := by
  unfold slD at h
  split at h
  · simp at h; exact .inl ⟨rfl, h⟩
  · split at h
    · rename_i id v n hc
      obtain ⟨e1, e2⟩ := decN_dec hd _ _ _ hc.2 h
      exact .inr ⟨id, v, by rw [e1], hc.1, e2⟩
    · simp at h
  · simp at h

/-- single words, numbers, bools -/
def encU (x : BitVec 64) : List Sc := [.u x]
def dcU : List Sc → Option (BitVec 64)
  | [.u x] => some x
  | _ => none
theorem dcU_e (x : BitVec 64) : dcU (encU x) = some x := rfl
theorem dcU_d (cs : List Sc) (x : BitVec 64) (h : dcU cs = some x) : cs = encU x := by unfold dcU at h; split at h <;> simp_all [encU]
theorem encU_l (x : BitVec 64) : (encU x).length = 1 := rfl
def encI (x : Int) : List Sc := [.i x]
def dcI : List Sc → Option Int
  | [.i x] => some x
  | _ => none
theorem dcI_e (x : Int) : dcI (encI x) = some x := rfl
theorem dcI_d (cs : List Sc) (x : Int) (h : dcI cs = some x) : cs = encI x := by unfold dcI at h; split at h <;> simp_all [encI]
theorem encI_l (x : Int) : (encI x).length = 1 := rfl
def encB (x : Bool) : List Sc := [.b x]
def dcB : List Sc → Option Bool
  | [.b x] => some x
  | _ => none
theorem dcB_e (x : Bool) : dcB (encB x) = some x := rfl
theorem dcB_d (cs : List Sc) (x : Bool) (h : dcB cs = some x) : cs = encB x := by unfold dcB at h; split at h <;> simp_all [encB]
theorem encB_l (x : Bool) : (encB x).length = 1 := rfl
theorem fm1 {α : Type} {f : α → List Sc} {g : α → Sc} (h : ∀ x, f x = [g x]) {L : List α} {k : Nat} {x : α} (hx : L[k]? = some x) : (L.flatMap f).getD k .any = g x := by
  have e := fm_cell (f := f) (w := 1) (i := 0) (fun y => by rw [h y]; rfl) hx (by decide)
  rw [Nat.mul_one, Nat.add_zero] at e
  rw [e, h x]; rfl
/-- what a law is given, as rows -/
theorem fit_rows {α : Type} {ks : List K} {f : α → List Sc} {p : α → Prop} (hk : ∀ cs, L2 FitK cs ks → ∃ x, cs = f x ∧ p x) : ∀ (n : Nat) (cs : List Sc), L2 FitK cs (List.replicate n ks).flatten → ∃ L : List α, L.length = n ∧ cs = L.flatMap f ∧ ∀ x ∈ L, p x := by
  intro n
  induction n with
  | zero => intro cs h; simp only [List.replicate_zero, List.flatten_nil] at h; obtain rfl := fit_nil h; exact ⟨[], rfl, rfl, by simp⟩
  | succ n ih =>
    intro cs h
    rw [List.replicate_succ, List.flatten_cons] at h
    have split : ∀ (a b : List K) (cs : List Sc), L2 FitK cs (a ++ b) → ∃ c d, cs = c ++ d ∧ L2 FitK c a ∧ L2 FitK d b := by
      intro a
      induction a with
      | nil => intro b cs h; exact ⟨[], cs, rfl, .nil, h⟩
      | cons k a ih =>
        intro b cs h
        obtain ⟨s, r, rfl, h1, h2⟩ := fit_cons h
        obtain ⟨c, d, rfl, h3, h4⟩ := ih b r h2
        exact ⟨s :: c, d, rfl, .cons h1 h3, h4⟩
    obtain ⟨c, d, rfl, h1, h2⟩ := split _ _ _ h
    obtain ⟨x, rfl, hx⟩ := hk c h1
    obtain ⟨L, h3, rfl, h4⟩ := ih d h2
    exact ⟨x :: L, by simp [h3], by rw [List.flatMap_cons], by simpa using ⟨hx, h4⟩⟩
/-- a slice that a law is given -/
theorem sig_row {α : Type} {ks : List K} {f : α → List Sc} {w : Nat} {dc : List Sc → Option α} {p : α → Prop} (hk : ∀ cs, L2 FitK cs ks → ∃ x, cs = f x ∧ p x) (hw : ∀ x, (f x).length = w) (hd : ∀ x, dc (f x) = some x) {ps : List Par} {avs : List AV} {H : AH}
    (h : SigA (.sl ks :: ps) avs H) : ∃ x r, avs = .c x :: r ∧ SigA ps r H ∧ ∃ L : List α, slD w dc H x = some L ∧ (∀ x ∈ L, p x) ∧ L.length ≤ 9223372036854775807 := by
  obtain ⟨r, hr, rfl | ⟨id, n, rfl, h1, h2, h3, h4, h5, h6⟩⟩ := sig_sl h
  · exact ⟨_, r, rfl, hr, [], rfl, by simp, by simp⟩
  · obtain ⟨L, e1, e2, e3⟩ := fit_rows hk n _ h6
    exact ⟨_, r, rfl, hr, L, slD_of hw hd h2.symm e1.symm e2, e3, by omega⟩

end
end Go.Proofs.YtcbhelkafelofaaGreat
