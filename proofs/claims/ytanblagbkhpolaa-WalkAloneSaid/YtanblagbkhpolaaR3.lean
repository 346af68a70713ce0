/- Contracts of layer 1's reference: what is less, and shifts. -/
import Derived.Test.YtanblagbkhpolaaR2
import Derived.Test.YtanblagbkhpolaaB2
namespace Go.Proofs.Ytanblagbkhpolaa
open Go.Am
set_option linter.unusedSimpArgs false
set_option linter.unusedVariables false
noncomputable section

def lessU (a b : BitVec 64) : Bool := if bitU a 63 = bitU b 63 then decide (a < b) else decide (bitU a 63 = 1#64)
theorem bit63 (a : BitVec 64) : bitU a 63 = b2 a.msb := by
  have : (63 : Int) = ((63 : Nat) : Int) := rfl
  rw [this, bitU_n, BitVec.msb_eq_getLsbD_last]
theorem lessU_eq (a b : BitVec 64) : lessU a b = decide (a.toInt < b.toInt) := by
  unfold lessU
  rw [bit63, bit63]
  have h1 := BitVec.toInt_eq_msb_cond a
  have h2 := BitVec.toInt_eq_msb_cond b
  have l1 := a.isLt
  have l2 := b.isLt
  cases ha : a.msb <;> cases hb : b.msb <;> rw [ha] at h1 <;> rw [hb] at h2 <;> simp only [Bool.false_eq_true, if_false, if_true] at h1 h2 <;> simp [b2, BitVec.lt_def] <;> omega

def shG (how : Int) (w : BitVec 64) (f size : Nat) (i : Nat) : Bool :=
  if how = 1 then bitB w ((i : Int) - f) && decide ((i : Int) - f < size)
  else if i + f < size then w.getLsbD (i + f) else if how = 3 then w.getLsbD (size - 1) else false
def farN (n : BitVec 64) (size : Nat) : Nat := if size = 32 then n.toNat % 32 else n.toNat % 64
def refShU (how : Int) (w n : BitVec 64) (size : Nat) : BitVec 64 := signU (ofG fun i => decide (i < size) && shG how w (farN n size) size i) size
theorem ofW_n (g : Nat → Bool) (n : Nat) (hn : n ≤ 64) : ofW (lst g n) n = ofG fun i => decide (i < n) && g i := by
  refine ofG_ext fun i hi => ?_
  rw [ofW_bits g n n (Nat.le_refl _) i hi]
  simp

end
end Go.Proofs.Ytanblagbkhpolaa
