/- Layer 3: words of 32 bits, by bits: plain laws. -/
import Derived.Test.YtcfnfdafcfpohaaI7
namespace Go.Proofs.Ytcfnfdafcfpohaa
open Go.Am
set_option linter.unusedSimpArgs false
set_option linter.unusedVariables false
noncomputable section

theorem o32 (b : BitVec 32) : BitVec.ofInt 32 (b.toNat : Int) = b := by rw [BitVec.ofInt_natCast]; simp
theorem w32b (b : BitVec 32) : IntKind.u32.wrap (b.toNat : Int) = (b.toNat : Int) := wN b.isLt
theorem andB (a b : BitVec 32) : andK (a.toNat : Int) (b.toNat : Int) = ((a &&& b).toNat : Int) := by unfold andK; rw [o32, o32, w32b]
theorem orB (a b : BitVec 32) : orK (a.toNat : Int) (b.toNat : Int) = ((a ||| b).toNat : Int) := by unfold orK; rw [o32, o32, w32b]
theorem wrB (x : Int) : IntKind.u32.wrap x = ((BitVec.ofInt 32 x).toNat : Int) := by
  rw [BitVec.toNat_ofInt]
  simp only [IntKind.wrap, IntKind.bits, IntKind.signed, Bool.false_and]
  simp; omega
theorem shlB (b : BitVec 32) (n : Nat) (h : n ≤ 32) : shlK (b.toNat : Int) n = ((b <<< n).toNat : Int) := by
  unfold shlK
  rw [Nat.min_eq_left h, wrB]
  congr 2
  apply BitVec.eq_of_toNat_eq
  rw [BitVec.toNat_ofInt, BitVec.toNat_shiftLeft, Nat.shiftLeft_eq]
  have : (b.toNat : Int) * 2 ^ n = ((b.toNat * 2 ^ n : Nat) : Int) := by simp
  rw [this]
  omega
theorem layB (n : BitVec 64) (a s : Int) (t : Nat) (h : t < 18446744073709551616) : layC n a s (t : Int) = (((cutU n a s <<< t).setWidth 32).toNat : Int) := by
  unfold layC
  rw [ofI_nat h, wrB]
  congr 2
end
end Go.Proofs.Ytcfnfdafcfpohaa
