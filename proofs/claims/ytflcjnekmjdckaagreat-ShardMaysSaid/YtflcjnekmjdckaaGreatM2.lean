/- The laws of layer 8. -/
import Derived.Test.YtflcjnekmjdckaaGreatM1
namespace Go.Proofs.YtflcjnekmjdckaaGreat
open Go.Am
set_option linter.unusedSimpArgs false
set_option linter.unusedVariables false
noncomputable section

theorem wide_s {op : Int} (h : classI op = 7) : sizeI op * 8 = sizeA op := by
  have h' := h
  rw [class_7] at h
  obtain ⟨k, rfl⟩ := Int.eq_ofNat_of_zero_le (by omega : 0 ≤ op)
  have : ∀ k : Nat, k < 99 → classI k = 7 → sizeI k * 8 = sizeA k := by decide +kernel
  exact this k (by omega) h'
theorem live_8 : amoU 70 4294967295#64 2#64 = 1#64 ∧ isAB 70 = true ∧ amoU 75 2147483648#64 1#64 = 1#64 ∧ isAB 75 = true ∧ loadU 73 2147483648#64 = 18446744071562067968#64 := by
  refine ⟨?_, by decide, ?_, by decide, ?_⟩
  · rw [amoU, if_pos (by decide), show wideN 70 = 81 by decide, show sizeA 70 = 32 by decide]
    simp only [amoV, show ¬ ((81 : Int) = 80) by decide, if_false, if_true]
    unfold lowU; simp only [ofG_eqn]; decide +kernel
  · rw [amoU, if_pos (by decide), show wideN 75 = 86 by decide, show sizeA 75 = 32 by decide]
    simp only [amoV]
    unfold lowU signU; simp only [ofG_eqn]; decide +kernel
  · rw [loadU, if_pos (by decide), show sizeA 73 = 32 by decide]
    unfold signU; simp only [ofG_eqn]; decide +kernel
theorem isI_2 {op : Int} : (isI op = 2) = (linkB op = true) := by
  apply propext
  have k : linkB op = true → classI op = 7 := by rw [class_7]; unfold linkB; repeat' split
                                                 all_goals simp
                                                 all_goals omega
  unfold isI
  by_cases h : classI op = 7
  · rw [if_pos h]; split
    · simp_all
    · simp_all; split <;> simp
  · rw [if_neg h]; simp; cases e : linkB op
    · rfl
    · exact (h (k e)).elim
theorem isI_3 {op : Int} : (isI op = 3) = (condB op = true) := by
  apply propext
  have k : condB op = true → classI op = 7 ∧ linkB op = false := by rw [class_7]; unfold condB linkB; repeat' split
                                                                    all_goals simp
                                                                    all_goals omega
  unfold isI
  by_cases h : classI op = 7
  · rw [if_pos h]; split
    · rename_i h1; simp; cases e : condB op
      · rfl
      · have := (k e).2; simp_all
    · split <;> simp_all
  · rw [if_neg h]; simp; cases e : condB op
    · rfl
    · exact (h (k e).1).elim
theorem dq {p : Prop} [Decidable p] {q : Bool} (h : p = (q = true)) : decide p = q := by cases q <;> simp_all
/-- one that is chosen by a key -/
def selB {α : Type} (κ : α → Int) (mx : Bool) (a b : α) : α := if (decide (κ b < κ a)) = mx then a else b
theorem sel_twice {α : Type} (κ : α → Int) (mx : Bool) (a b : α) (inj : κ a = κ b → a = b) : selB κ mx (selB κ mx a b) b = selB κ mx a b := by
  unfold selB
  by_cases h : κ b < κ a
  · cases mx <;> simp [h]
  · cases mx <;> simp [h]
theorem sel_comm {α : Type} (κ : α → Int) (mx : Bool) (a b c : α) (i1 : κ b = κ c → b = c) (i2 : κ a = κ b → a = b) (i3 : κ a = κ c → a = c) : selB κ mx (selB κ mx a b) c = selB κ mx (selB κ mx a c) b := by
  unfold selB
  rcases Int.lt_trichotomy (κ a) (κ b) with h | h | h
  · rcases Int.lt_trichotomy (κ a) (κ c) with g | g | g
    · rcases Int.lt_trichotomy (κ b) (κ c) with f | f | f
      · cases mx <;> simp [show ¬ κ b < κ a by omega, show ¬ κ c < κ a by omega, show ¬ κ c < κ b by omega, f]
      · obtain rfl := i1 f; rfl
      · cases mx <;> simp [show ¬ κ b < κ a by omega, show ¬ κ c < κ a by omega, show ¬ κ b < κ c by omega, f]
    · obtain rfl := i3 g
      cases mx <;> simp [show ¬ κ b < κ a by omega, h]
    · cases mx <;> simp [show ¬ κ b < κ a by omega, show κ c < κ a by omega, show κ c < κ b by omega, show ¬ κ b < κ c by omega]
  · obtain rfl := i2 h
    rcases Int.lt_trichotomy (κ a) (κ c) with g | g | g
    · cases mx <;> simp [g, show ¬ κ c < κ a by omega]
    · obtain rfl := i3 g
      cases mx <;> simp
    · cases mx <;> simp [g, show ¬ κ a < κ c by omega]
  · rcases Int.lt_trichotomy (κ a) (κ c) with g | g | g
    · cases mx <;> simp [h, show ¬ κ c < κ a by omega, show ¬ κ c < κ b by omega, show κ b < κ c by omega]
    · obtain rfl := i3 g
      cases mx <;> simp [h, show ¬ κ a < κ b by omega]
    · rcases Int.lt_trichotomy (κ b) (κ c) with f | f | f
      · cases mx <;> simp [h, g, show ¬ κ c < κ b by omega, f]
      · obtain rfl := i1 f; rfl
      · cases mx <;> simp [h, g, show ¬ κ b < κ c by omega, f]
/-- the key of signed ones, and of others -/
def keyS (s : Int) (w : BitVec 64) : Int := (signU w s).toInt
def keyU (w : BitVec 64) : Int := (w.toNat : Int)
theorem keyS_low {s : Int} (hs : s = 32 ∨ s = 64) (w : BitVec 64) : keyS s (lowU w s) = keyS s w := by unfold keyS; rw [sign_low' _ _ hs]
theorem keyS_inj {s : Int} (hs : s = 32 ∨ s = 64) (a b : BitVec 64) (h : keyS s (lowU a s) = keyS s (lowU b s)) : lowU a s = lowU b s := by
  rw [keyS_low hs, keyS_low hs] at h
  have e : signU a s = signU b s := BitVec.eq_of_toInt_eq h
  rw [← low_sign a s hs, e, low_sign b s hs]
theorem keyU_inj (a b : BitVec 64) (h : keyU a = keyU b) : a = b := BitVec.eq_of_toNat_eq (by unfold keyU at h; omega)
theorem amo_sel {c s : Int} (hs : s = 32 ∨ s = 64) (hc : 85 ≤ c ∧ c ≤ 88) : ∃ (κ : BitVec 64 → Int) (mx : Bool), (∀ a b, κ (lowU a s) = κ (lowU b s) → lowU a s = lowU b s) ∧ ∀ m x, amoV c s m x = selB κ mx (lowU m s) (lowU x s) := by
  obtain rfl | rfl | rfl | rfl : c = 85 ∨ c = 86 ∨ c = 87 ∨ c = 88 := by omega
  · refine ⟨keyS s, false, keyS_inj hs, fun m x => ?_⟩
    unfold selB; rw [keyS_low hs, keyS_low hs]
    show (if (signU x s).toInt < (signU m s).toInt then lowU x s else lowU m s) = _
    unfold keyS
    by_cases h : (signU x s).toInt < (signU m s).toInt <;> simp [h]
  · refine ⟨keyS s, true, keyS_inj hs, fun m x => ?_⟩
    unfold selB; rw [keyS_low hs, keyS_low hs]
    show (if (signU x s).toInt < (signU m s).toInt then lowU m s else lowU x s) = _
    unfold keyS
    by_cases h : (signU x s).toInt < (signU m s).toInt <;> simp [h]
  · refine ⟨keyU, false, fun a b => keyU_inj _ _, fun m x => ?_⟩
    unfold selB keyU
    show (if lowU x s < lowU m s then lowU x s else lowU m s) = _
    simp only [BitVec.lt_def, Int.ofNat_lt]
    by_cases h : (lowU x s).toNat < (lowU m s).toNat <;> simp [h]
  · refine ⟨keyU, true, fun a b => keyU_inj _ _, fun m x => ?_⟩
    unfold selB keyU
    show (if lowU x s < lowU m s then lowU m s else lowU x s) = _
    simp only [BitVec.lt_def, Int.ofNat_lt]
    by_cases h : (lowU x s).toNat < (lowU m s).toNat <;> simp [h]
theorem sel_low {κ : BitVec 64 → Int} {mx : Bool} {s : Int} (m x : BitVec 64) : lowU (selB κ mx (lowU m s) (lowU x s)) s = selB κ mx (lowU m s) (lowU x s) := by unfold selB; split <;> rw [low_low]
theorem low_add (a b : BitVec 64) (s : Int) (hs : s = 32 ∨ s = 64) : lowU (lowU a s + lowU b s) s = lowU (a + b) s := by
  rcases hs with rfl | rfl
  · have m : ∀ w : BitVec 64, (lowU w 32).toNat = w.toNat % 4294967296 := fun w => by
      have e : (4294967296 : Nat) = 2 ^ 32 := rfl
      rw [e]
      apply Nat.eq_of_testBit_eq
      intro i
      rw [Nat.testBit_mod_two_pow]
      by_cases hi : i < 64
      · have := low_g w 32 i hi
        rw [show decide ((i : Int) < 32) = decide (i < 32) from decide_eq_decide.2 (by omega)] at this
        exact this
      · have e1 : (lowU w 32).toNat.testBit i = false := Nat.testBit_lt_two_pow (Nat.lt_of_lt_of_le (lowU w 32).isLt (Nat.pow_le_pow_right (by decide) (by omega)))
        rw [e1, decide_eq_false (by omega)]; rfl
    apply BitVec.eq_of_toNat_eq
    rw [m, m, BitVec.toNat_add, BitVec.toNat_add, m, m]
    omega
  · simp only [low_64]
theorem bits3 (f : Bool → Bool → Bool) : True := trivial

end
end Go.Proofs.YtflcjnekmjdckaaGreat
