/- Layer 12: who is stuck, all told: contracts. -/
import Derived.Test.YthfccacopffkgaaLk7
namespace Go.Proofs.Ythfccacopffkgaa
open Go.Am
set_option linter.unusedSimpArgs false
set_option linter.unusedVariables false
noncomputable section
set_option maxRecDepth 100000

/-! ### plain -/
def atB (B : List Bool) (k : Nat) : Bool := B.getD k false
/-- the greatest set each of which waits at a lock whose holder is one of it -/
structure Gfp (S : LS) (B : List Bool) : Prop where
  len : B.length = 8
  cl : ∀ k, k < 8 → atB B k = true → wtP S B (k : Int) = true
  gr : ∀ C : List Bool, C.length = 8 → (∀ k, k < 8 → atB C k = true → wtP S C (k : Int) = true) → ∀ k, k < 8 → atB C k = true → atB B k = true
def trN (B : List Bool) : Nat → List Int
  | 0 => []
  | k + 1 => if atB B k = true then trN B k ++ [(k : Int)] else trN B k
def trB (B : List Bool) : List Int := trN B 8
theorem trN_len {B : List Bool} : ∀ k, (trN B k).length ≤ k
  | 0 => Nat.le_refl _
  | k + 1 => by
    have := trN_len (B := B) k
    unfold trN
    split
    · simp; omega
    · omega
theorem wt_mono {S : LS} {B C : List Bool} (h : ∀ k, atB B k = true → atB C k = true) {w : Int} (hw : wtP S B w = true) : wtP S C w = true := by
  unfold wtP at hw ⊢
  rw [List.any_eq_true] at hw ⊢
  obtain ⟨y, hy, h1⟩ := hw
  refine ⟨y, hy, ?_⟩
  simp only [Bool.and_eq_true] at h1 ⊢
  exact ⟨h1.1, h _ h1.2.1, h1.2.2⟩
def inK (S : LS) (k : Nat) : List Bool := (List.range 8).map fun j => decide (j < k) && (waK S (j : Int)).isSome
theorem inK_len {S : LS} {k : Nat} : (inK S k).length = 8 := by simp [inK]
theorem inK_at {S : LS} {k j : Nat} (hj : j < 8) : atB (inK S k) j = (decide (j < k) && (waK S (j : Int)).isSome) := by
  unfold atB inK
  rw [List.getD_eq_getElem?_getD, List.getElem?_map, List.getElem?_range hj]; rfl
theorem at_lt {B : List Bool} (hB : B.length = 8) {k : Nat} (h : atB B k = true) : k < 8 := by
  rcases Nat.lt_or_ge k 8 with h1 | h1
  · exact h1
  · unfold atB at h
    rw [List.getD_eq_getElem?_getD, List.getElem?_eq_none (by omega)] at h
    simp at h
theorem inK_set {S : LS} {k : Nat} (hk : k < 8) : wr ((inK S k).map Sc.b) k [.b (waK S (k : Int)).isSome] = (inK S (k + 1)).map Sc.b := by
  rw [wr_map (g := Sc.b) (by rw [inK_len]; exact hk)]
  congr 1
  apply List.ext_getElem?
  intro j
  unfold inK
  rw [List.getElem?_set, List.getElem?_map, List.getElem?_map]
  rcases Nat.lt_or_ge j 8 with hj | hj
  · rw [List.getElem?_range hj]
    by_cases e : k = j
    · subst e; simp [hk]
    · have e2 : (j < k) = (j < k + 1) := propext (by omega)
      simp [e, e2]
  · rw [List.getElem?_eq_none (by simpa using hj)]
    simp; omega
def cntB (B : List Bool) : Nat := (B.filter id).length
theorem cnt_set {B : List Bool} {k : Nat} (h : atB B k = true) (hB : B.length = 8) : cntB (B.set k false) < cntB B := by
  have hk := at_lt hB h
  unfold atB at h
  rw [List.getD_eq_getElem?_getD, List.getElem?_eq_getElem (by omega)] at h
  have e : B = B.take k ++ true :: B.drop (k + 1) := by
    conv => lhs; rw [← List.take_append_drop k B, List.drop_eq_getElem_cons (by omega)]
    rw [show B[k] = true from h]
  have e2 : B.set k false = B.take k ++ false :: B.drop (k + 1) := by rw [List.set_eq_take_append_cons_drop, if_pos (by omega)]
  unfold cntB
  rw [e2]
  conv => rhs; rw [e]
  simp
theorem set_at {B : List Bool} {k j : Nat} (hB : B.length = 8) (hk : k < 8) : atB (B.set k false) j = if k = j then false else atB B j := by
  unfold atB
  rw [List.getD_eq_getElem?_getD, List.getElem?_set, List.getD_eq_getElem?_getD]
  split
  · rw [if_pos (by omega)]; rfl
  · rfl
theorem set_sub {B : List Bool} {k : Nat} (hB : B.length = 8) (hk : k < 8) {j : Nat} (h : atB (B.set k false) j = true) : atB B j = true := by
  rw [set_at hB hk] at h
  split at h
  · simp at h
  · exact h
/-- nobody of any such set is out -/
def Inn (S : LS) (B : List Bool) : Prop := B.length = 8 ∧ ∀ C : List Bool, C.length = 8 → (∀ k, k < 8 → atB C k = true → wtP S C (k : Int) = true) → ∀ k, k < 8 → atB C k = true → atB B k = true
theorem Inn.set {S : LS} {B : List Bool} (h : Inn S B) {k : Nat} (hk : k < 8) (hw : wtP S B (k : Int) = false) : Inn S (B.set k false) := by
  refine ⟨by rw [List.length_set]; exact h.1, fun C hC hc j hj hCj => ?_⟩
  rw [set_at h.1 hk]
  split
  · rename_i e
    subst e
    have := wt_mono (S := S) (B := C) (C := B) (fun i hi => h.2 C hC hc i (at_lt hC hi) hi) (hc k hk hCj)
    rw [hw] at this; exact this
  · exact h.2 C hC hc j hj hCj
theorem Inn.start (S : LS) : Inn S (inK S 8) := by
  refine ⟨inK_len, fun C hC hc k hk hCk => ?_⟩
  rw [inK_at hk, decide_eq_true hk, Bool.true_and]
  have := hc k hk hCk
  unfold wtP at this
  rw [List.any_eq_true] at this
  obtain ⟨y, hy, h1⟩ := this
  simp only [Bool.and_eq_true, decide_eq_true_eq] at h1
  unfold waK
  rw [List.findIdx?_isSome, List.any_eq_true]
  exact ⟨y, hy, decide_eq_true h1.2.2⟩
theorem waV_t (S : LS) (w : Int) : waV S w = .t [.c (.i (match waK S w with | some k => (k : Int) | none => 0)), .c (.b (waK S w).isSome)] := by
  unfold waV
  cases waK S w <;> rfl
section
variable {H : AH} {D : Ld}
def q_lstk (args : List AV) (H : AH) (v : AV) (H1 : AH) : Prop := (args = [.c .nilp] → v = .c .nils ∧ H1 = H) ∧ ∀ D, args = [.c (.p D.p 0 0)] → LI H D → ∃ B, Gfp D.S B ∧ Own1 H H1 v (trB B)
def s_lstk : List AV → AH → Option (AV × AH) := frS Try.prog [(29, .fq s_lwaits), (36, .fq s_lstk1)] 12 q_lstk
set_option maxRecDepth 100000 in
set_option maxHeartbeats 2000000 in
theorem ok_lstk : FpOk Try.prog 12 s_lstk := frS_ok hmix (TabOk.cons (e := .fq s_lwaits) ok_lwaits (TabOk.cons (e := .fq s_lstk1) ok_lstk1 TabOk.nil)) Try.func12 rfl Try.results12 Try.ntmps12 (by kernel_rfl) (by kernel_rfl)
theorem s_lstk_nil : s_lstk [.c .nilp] H = some (.c .nils, H) := by
  have : ∃ v H1, s_lstk [.c .nilp] H = some (v, H1) ∧ H.length ≤ H1.length ∧ q_lstk [.c .nilp] H v H1 := by
    unfold s_lstk
    apply frS_ex (v := .c .nils) (H1 := H) Try.func12 rfl Try.results12 Try.ntmps12 (by simp only [List.length_cons, List.length_nil]; decide)
    · intro ha hH
      (try simp (config := { maxSteps := 10000000 }) only [go_sem, seval]; repeat (simp (disch := omega) only [w64_d, ipos, ineg, dpos, dneg]; try simp (config := { maxSteps := 10000000 }) only [go_sem, seval]))
      exact fin_fp rfl (subH_app _ _) hH (Nat.le_refl _)
    · exact Nat.le_refl _
    · exact ⟨fun _ => ⟨rfl, rfl⟩, fun E he hE => by simp at he⟩
  obtain ⟨v, H1, h1, _, h2⟩ := this
  obtain ⟨rfl, rfl⟩ := h2.1 rfl
  exact h1
theorem gfp_ex (S : LS) : ∃ B, Gfp S B := by
  have key : ∀ (n : Nat) (B : List Bool), cntB B = n → Inn S B → ∃ B, Gfp S B := by
    intro n
    induction n using Nat.strongRecOn with
    | _ n ih =>
      intro B hn hB
      by_cases hc : ∀ k, k < 8 → atB B k = true → wtP S B (k : Int) = true
      · exact ⟨B, hB.1, hc, hB.2⟩
      · simp only [Classical.not_forall] at hc
        obtain ⟨k, hk, hb, hw⟩ := hc
        exact ih _ (by rw [← hn]; exact cnt_set hb hB.1) _ rfl (hB.set hk (by simpa using hw))
  exact key _ _ rfl (Inn.start S)
theorem gfp_uniq {S : LS} {B C : List Bool} (h : Gfp S B) (h' : Gfp S C) : B = C := by
  apply List.ext_getElem (by rw [h.len, h'.len])
  intro k h1 h2
  have e1 : atB B k = B[k] := by unfold atB; rw [List.getD_eq_getElem?_getD, List.getElem?_eq_getElem h1]; rfl
  have e2 : atB C k = C[k] := by unfold atB; rw [List.getD_eq_getElem?_getD, List.getElem?_eq_getElem h2]; rfl
  rw [← e1, ← e2]
  have hk : k < 8 := by rw [← h.len]; exact h1
  cases hb : atB B k with
  | true => exact (h'.gr B h.len h.cl k hk hb).symm
  | false =>
    cases hc : atB C k with
    | false => rfl
    | true => rw [h.gr C h'.len h'.cl k hk hc] at hb; simp at hb
end
end
end Go.Proofs.Ythfccacopffkgaa
