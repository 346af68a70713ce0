/- Layer 4: the sizes of accesses, as the document tells them. -/
import Derived.Test.YtanblagbkhpolaaK1
namespace Go.Proofs.Ytanblagbkhpolaa
open Go.Am
set_option linter.unusedSimpArgs false
set_option linter.unusedVariables false
noncomputable section

def sizeI (op : Int) : Int :=
  if wiB op 67 77 = true then 4 else if wiB op 78 88 = true then 8 else
  if op = 11 then 1 else if op = 12 then 2 else if op = 13 then 4 else if op = 14 then 8 else if op = 15 then 1 else if op = 16 then 2 else if op = 17 then 4 else
  if op = 18 then 1 else if op = 19 then 2 else if op = 20 then 4 else if op = 21 then 8 else 0
def sizeS (c : Int) (s : ByteArray) : Int :=
  if c = 7 then (if endsB s (⟨#[46, 119]⟩ : ByteArray) = true then 4 else 8) else
  if ((s.data.getD 1 0).toNat : Int) = 98 then 1 else if ((s.data.getD 1 0).toNat : Int) = 104 then 2 else if ((s.data.getD 1 0).toNat : Int) = 119 then 4 else 8
theorem sizeS_I : ∀ k : Nat, k < 99 → (classI k = 5 ∨ classI k = 6 ∨ classI k = 7) → sizeS (classI k) (nm k) = sizeI k ∧ 2 ≤ (nm k).size ∧ (nm k).size ≤ 100 := by decide +kernel
theorem class_in {op : Int} (h : classI op ≠ 0) : 1 ≤ op ∧ op ≤ 98 := by
  by_cases h0 : 1 ≤ op ∧ op ≤ 98
  · exact h0
  · exact (h (class_out (by omega))).elim
theorem size_0 {op : Int} (h : ¬ (classI op = 5 ∨ classI op = 6 ∨ classI op = 7)) : sizeI op = 0 := by
  by_cases h0 : 1 ≤ op ∧ op ≤ 98
  · obtain ⟨k, rfl⟩ := Int.eq_ofNat_of_zero_le (by omega : 0 ≤ op)
    have : ∀ k : Nat, k < 99 → ¬ (classI k = 5 ∨ classI k = 6 ∨ classI k = 7) → sizeI k = 0 := by decide +kernel
    exact this k (by omega) h
  · simp only [sizeI, wiB, Bool.and_eq_true, decide_eq_true_eq]
    repeat rw [if_neg (by omega)]

end
end Go.Proofs.Ytanblagbkhpolaa
