/- The reference's bits: what 'Bit' returns, for every input. -/
import Derived.Test.YtfddaaplnnlfoaaTy
namespace Go.Proofs.Ytfddaaplnnlfoaa
open Go.Am
set_option linter.unusedSimpArgs false
set_option linter.unusedVariables false
noncomputable section

/-- a word's bit -/
def bitU (w : BitVec 64) (i : Int) : BitVec 64 := if 0 ≤ i ∧ i ≤ 63 then (if w.getLsbD i.toNat then 1#64 else 0#64) else 0#64

theorem shr_mod (w : BitVec 64) (n : Nat) : (w >>> n) % 2#64 = if w.getLsbD n then 1#64 else 0#64 := by
  apply BitVec.eq_of_toNat_eq
  have h : w.getLsbD n = decide (w.toNat / 2 ^ n % 2 = 1) := by
    simp only [BitVec.getLsbD, Nat.testBit_eq_decide_div_mod_eq]
  have h2 : w.toNat / 2 ^ n % 2 < 2 := Nat.mod_lt _ (by omega)
  simp only [BitVec.toNat_umod, BitVec.toNat_ushiftRight, Nat.shiftRight_eq_div_pow, h, BitVec.toNat_ofNat]
  by_cases hb : w.toNat / 2 ^ n % 2 = 1
  · simp [hb]
  · have h0 : w.toNat / 2 ^ n % 2 = 0 := by omega
    simp [h0]
theorem shr_succ (w : BitVec 64) (n : Nat) : (w >>> n) / 2#64 = w >>> (n + 1) := by
  apply BitVec.eq_of_toNat_eq
  have h2 : (2#64).toNat = 2 := rfl
  simp only [BitVec.toNat_udiv, BitVec.toNat_ushiftRight, Nat.shiftRight_eq_div_pow, h2]
  rw [Nat.div_div_eq_div_mul, ← Nat.pow_succ]


end
end Go.Proofs.Ytfddaaplnnlfoaa
