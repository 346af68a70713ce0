/- Layer 12: who is stuck, as the document says: contracts. -/
import Derived.Test.YthfccacopffkgaaLkI
namespace Go.Proofs.Ythfccacopffkgaa
open Go.Am
set_option linter.unusedSimpArgs false
set_option linter.unusedVariables false
noncomputable section
set_option maxRecDepth 100000

/-! ### plain -/
def clS (S : LS) (W : List Int) : Bool := W.all fun w => S.any fun y => decide (w ∈ y.2) && decide (y.1 ∈ W)
def bitsB (s : Nat) : List Bool := (List.range 8).map fun j => s.testBit j
def bsF (S : LS) : Nat → List Int
  | 0 => []
  | j + 1 => if (bsF S j).length < (trB (bitsB (255 - j))).length ∧ clS S (trB (bitsB (255 - j))) = true then trB (bitsB (255 - j)) else bsF S j
theorem bits_len (s : Nat) : (bitsB s).length = 8 := by simp [bitsB]
theorem bits_at {s k : Nat} (hk : k < 8) : atB (bitsB s) k = s.testBit k := by
  unfold atB bitsB
  rw [List.getD_eq_getElem?_getD, List.getElem?_map, List.getElem?_range hk]; rfl
theorem mem_trN {B : List Bool} {x : Int} : ∀ {k : Nat}, x ∈ trN B k ↔ ∃ j : Nat, j < k ∧ x = j ∧ atB B j = true
  | 0 => by simp [trN]
  | k + 1 => by
    unfold trN
    have ih := mem_trN (B := B) (x := x) (k := k)
    split
    · rename_i h
      rw [List.mem_append, ih, List.mem_singleton]
      constructor
      · rintro (⟨j, h1, h2, h3⟩ | rfl)
        · exact ⟨j, by omega, h2, h3⟩
        · exact ⟨k, by omega, rfl, h⟩
      · rintro ⟨j, h1, h2, h3⟩
        rcases Nat.lt_succ_iff_lt_or_eq.1 h1 with h4 | rfl
        · exact .inl ⟨j, h4, h2, h3⟩
        · exact .inr h2
    · rename_i h
      rw [ih]
      constructor
      · rintro ⟨j, h1, h2, h3⟩; exact ⟨j, by omega, h2, h3⟩
      · rintro ⟨j, h1, h2, h3⟩
        rcases Nat.lt_succ_iff_lt_or_eq.1 h1 with h4 | rfl
        · exact ⟨j, h4, h2, h3⟩
        · exact absurd h3 h
theorem trN_sub {B G : List Bool} (h : ∀ j, atB B j = true → atB G j = true) : ∀ k, (trN B k).length ≤ (trN G k).length ∧ ((trN B k).length = (trN G k).length → ∀ j, j < k → atB B j = atB G j)
  | 0 => ⟨Nat.le_refl _, fun _ j hj => absurd hj (Nat.not_lt_zero _)⟩
  | k + 1 => by
    obtain ⟨h1, h2⟩ := trN_sub h k
    unfold trN
    cases hb : atB B k with
    | true =>
      rw [h k hb]
      simp only [if_true, List.length_append, List.length_cons, List.length_nil]
      refine ⟨by omega, fun he j hj => ?_⟩
      rcases Nat.lt_succ_iff_lt_or_eq.1 hj with h4 | rfl
      · exact h2 (by omega) j h4
      · rw [hb, h j hb]
    | false =>
      cases hg : atB G k with
      | true =>
        simp only [if_true, if_false, Bool.false_eq_true, List.length_append, List.length_cons, List.length_nil]
        exact ⟨by omega, fun he => by omega⟩
      | false =>
        simp only [if_false, Bool.false_eq_true]
        refine ⟨h1, fun he j hj => ?_⟩
        rcases Nat.lt_succ_iff_lt_or_eq.1 hj with h4 | rfl
        · exact h2 he j h4
        · rw [hb, hg]
theorem at_ext {B C : List Bool} (hB : B.length = 8) (hC : C.length = 8) (h : ∀ k, k < 8 → atB B k = atB C k) : B = C := by
  apply List.ext_getElem (by rw [hB, hC])
  intro k h1 h2
  have := h k (by omega)
  unfold atB at this
  rw [List.getD_eq_getElem?_getD, List.getD_eq_getElem?_getD, List.getElem?_eq_getElem h1, List.getElem?_eq_getElem h2] at this
  exact this
theorem cl_iff {S : LS} {B : List Bool} (hB : B.length = 8) : clS S (trB B) = true ↔ ∀ k, k < 8 → atB B k = true → wtP S B (k : Int) = true := by
  unfold clS wtP
  rw [List.all_eq_true]
  constructor
  · intro h k hk hb
    have := h (k : Int) (mem_trN.2 ⟨k, hk, rfl, hb⟩)
    rw [List.any_eq_true] at this ⊢
    obtain ⟨y, hy, h1⟩ := this
    simp only [Bool.and_eq_true, decide_eq_true_eq] at h1
    obtain ⟨j, hj, e, hb2⟩ := mem_trN.1 h1.2
    refine ⟨y, hy, ?_⟩
    simp only [Bool.and_eq_true, decide_eq_true_eq]
    refine ⟨by omega, ?_, h1.1⟩
    rw [e, Int.toNat_natCast]; exact hb2
  · intro h w hw
    obtain ⟨k, hk, rfl, hb⟩ := mem_trN.1 hw
    have := h k hk hb
    rw [List.any_eq_true] at this ⊢
    obtain ⟨y, hy, h1⟩ := this
    simp only [Bool.and_eq_true, decide_eq_true_eq] at h1
    refine ⟨y, hy, ?_⟩
    simp only [Bool.and_eq_true, decide_eq_true_eq]
    refine ⟨h1.2.2, mem_trN.2 ⟨y.1.toNat, at_lt hB h1.2.1, by omega, h1.2.1⟩⟩
def numB (B : List Bool) : Nat := (if atB B 0 then 1 else 0) + (if atB B 1 then 2 else 0) + (if atB B 2 then 4 else 0) + (if atB B 3 then 8 else 0) + (if atB B 4 then 16 else 0) + (if atB B 5 then 32 else 0) + (if atB B 6 then 64 else 0) + (if atB B 7 then 128 else 0)
theorem num_all : ∀ a b c d e f g h : Bool, bitsB (numB [a, b, c, d, e, f, g, h]) = [a, b, c, d, e, f, g, h] ∧ numB [a, b, c, d, e, f, g, h] < 256 := by decide +kernel
theorem num_ex {B : List Bool} (hB : B.length = 8) : ∃ s, s < 256 ∧ bitsB s = B := by
  match B, hB with
  | [a, b, c, d, e, f, g, h], _ => exact ⟨_, (num_all a b c d e f g h).2, (num_all a b c d e f g h).1⟩
theorem bits_inj : ∀ s t : Fin 256, bitsB s = bitsB t → s = t := by
  have : ∀ s : Fin 256, numB (bitsB s) = s := by decide +kernel
  intro s t h
  apply Fin.ext
  rw [← this s, ← this t, h]
theorem bits_0 : trB (bitsB 0) = [] := by decide +kernel
theorem bsF_gfp {S : LS} {G : List Bool} (hG : Gfp S G) : bsF S 255 = trB G := by
  obtain ⟨g, hg, eg⟩ := num_ex hG.len
  have sub : ∀ s, clS S (trB (bitsB s)) = true → ∀ j, atB (bitsB s) j = true → atB G j = true := fun s h j hj => hG.gr _ (bits_len s) ((cl_iff (bits_len s)).1 h) j (at_lt (bits_len s) hj) hj
  have key : ∀ j, j ≤ 255 → bsF S j = trB G ∨ ((bsF S j).length < (trB G).length ∧ g + j < 256) := by
    intro j
    induction j with
    | zero =>
      intro _
      cases h : trB G with
      | nil => exact .inl rfl
      | cons a l => exact .inr ⟨by simp [bsF], by omega⟩
    | succ j ih =>
      intro hj
      have e : bsF S (j + 1) = if (bsF S j).length < (trB (bitsB (255 - j))).length ∧ clS S (trB (bitsB (255 - j))) = true then trB (bitsB (255 - j)) else bsF S j := rfl
      rcases ih (by omega) with h | ⟨h1, h2⟩
      · left
        rw [e, if_neg, h]
        rintro ⟨h1, h2⟩
        have := (trN_sub (sub _ h2) 8).1
        rw [h] at h1
        unfold trB at h1
        omega
      · by_cases hs : g = 255 - j
        · left
          rw [e, ← hs, eg, if_pos ⟨h1, (cl_iff hG.len).2 hG.cl⟩]
        · right
          refine ⟨?_, by omega⟩
          rw [e]
          split
          · rename_i hc
            obtain ⟨c1, c2⟩ := trN_sub (sub _ hc.2) 8
            unfold trB
            rcases Nat.lt_or_ge (trN (bitsB (255 - j)) 8).length (trN G 8).length with h3 | h3
            · exact h3
            · exfalso
              have := at_ext (bits_len _) hG.len (c2 (by omega))
              rw [← eg] at this
              have := bits_inj ⟨255 - j, by omega⟩ ⟨g, hg⟩ this
              simp only [Fin.mk.injEq] at this
              omega
          · exact h1
  rcases key 255 (Nat.le_refl _) with h | ⟨h1, h2⟩
  · exact h
  · have : g = 0 := by omega
    subst this
    rw [← eg, bits_0] at h1
    simp at h1
end
end Go.Proofs.Ythfccacopffkgaa
