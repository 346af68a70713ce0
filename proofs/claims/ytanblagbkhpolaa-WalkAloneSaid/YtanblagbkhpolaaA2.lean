/- Layer 7's reference: contracts. -/
import Derived.Test.YtanblagbkhpolaaA1
import Derived.Test.YtanblagbkhpolaaL1
namespace Go.Proofs.Ytanblagbkhpolaa
open Go.Am
set_option linter.unusedSimpArgs false
set_option linter.unusedVariables false
noncomputable section

def lgB (a b mn mx : BitVec 64) (i : Nat) : Bool := decide (mn ≤ b2 (a.getLsbD i) + b2 (b.getLsbD i)) && decide (b2 (a.getLsbD i) + b2 (b.getLsbD i) ≤ mx)
theorem lg_xor (a b : BitVec 64) : ofG (lgB a b 1#64 1#64) = a ^^^ b := by
  refine (ofG_ext fun i hi => ?_).symm
  rw [BitVec.getLsbD_xor]; unfold lgB b2
  cases a.getLsbD i <;> cases b.getLsbD i <;> decide
theorem lg_or (a b : BitVec 64) : ofG (lgB a b 1#64 2#64) = a ||| b := by
  refine (ofG_ext fun i hi => ?_).symm
  rw [BitVec.getLsbD_or]; unfold lgB b2
  cases a.getLsbD i <;> cases b.getLsbD i <;> decide
theorem lg_and (a b : BitVec 64) : ofG (lgB a b 2#64 2#64) = a &&& b := by
  refine (ofG_ext fun i hi => ?_).symm
  rw [BitVec.getLsbD_and]; unfold lgB b2
  cases a.getLsbD i <;> cases b.getLsbD i <;> decide
theorem lo_eq (a b : BitVec 64) : timesLo a b = a * b := by
  have t := times_nat a b
  apply BitVec.eq_of_toNat_eq
  have l := (timesLo a b).isLt
  rw [BitVec.toNat_mul, ← t]
  omega
theorem rh_0 (a b : BitVec 64) : rhighU a b 0 = timesHi a b := by simp [rhighU, dropU]
theorem rh_1 (a b : BitVec 64) : rhighU a b 1 = highMixedU a b := by rw [mixed_eq]; simp [rhighU, dropU]
theorem rh_2 (a b : BitVec 64) : rhighU a b 2 = highU a b := by rw [high_eq]; simp [rhighU, dropU]
theorem ofF_t (a : BitVec 64) : ofF true a = lowU a 32 := rfl
theorem ofF_f (a : BitVec 64) : ofF false a = signU a 32 := rfl
def codeP (s : ByteArray) : Int :=
  if s = (⟨#[109, 117, 108]⟩ : ByteArray) then 54 else
  if s = (⟨#[109, 117, 108, 104]⟩ : ByteArray) then 55 else
  if s = (⟨#[109, 117, 108, 104, 115, 117]⟩ : ByteArray) then 56 else
  if s = (⟨#[109, 117, 108, 104, 117]⟩ : ByteArray) then 57 else
  if s = (⟨#[100, 105, 118]⟩ : ByteArray) then 58 else
  if s = (⟨#[100, 105, 118, 117]⟩ : ByteArray) then 59 else
  if s = (⟨#[114, 101, 109]⟩ : ByteArray) then 60 else
  if s = (⟨#[114, 101, 109, 117]⟩ : ByteArray) then 61 else
  if s = (⟨#[109, 117, 108, 119]⟩ : ByteArray) then 62 else
  if s = (⟨#[100, 105, 118, 119]⟩ : ByteArray) then 63 else
  if s = (⟨#[100, 105, 118, 117, 119]⟩ : ByteArray) then 64 else
  if s = (⟨#[114, 101, 109, 119]⟩ : ByteArray) then 65 else 66
def codeS (s : ByteArray) : Int :=
  if s = (⟨#[97, 100, 100]⟩ : ByteArray) then 31 else
  if s = (⟨#[115, 117, 98]⟩ : ByteArray) then 32 else
  if s = (⟨#[115, 108, 108]⟩ : ByteArray) then 33 else
  if s = (⟨#[115, 114, 108]⟩ : ByteArray) then 37 else
  if s = (⟨#[115, 114, 97]⟩ : ByteArray) then 38 else
  if s = (⟨#[115, 108, 116]⟩ : ByteArray) then 34 else
  if s = (⟨#[115, 108, 116, 117]⟩ : ByteArray) then 35 else
  if s = (⟨#[120, 111, 114]⟩ : ByteArray) then 36 else
  if s = (⟨#[111, 114]⟩ : ByteArray) then 39 else
  if s = (⟨#[97, 110, 100]⟩ : ByteArray) then 40 else
  if s = (⟨#[97, 100, 100, 119]⟩ : ByteArray) then 45 else
  if s = (⟨#[115, 117, 98, 119]⟩ : ByteArray) then 46 else
  if s = (⟨#[115, 108, 108, 119]⟩ : ByteArray) then 47 else
  if s = (⟨#[115, 114, 108, 119]⟩ : ByteArray) then 48 else
  if s = (⟨#[115, 114, 97, 119]⟩ : ByteArray) then 49 else codeP s
def nameS (s : ByteArray) : ByteArray :=
  if s = (⟨#[97, 100, 100, 105]⟩ : ByteArray) then s.extract 0 (s.size - 1) else
  if s = (⟨#[115, 108, 116, 105]⟩ : ByteArray) then s.extract 0 (s.size - 1) else
  if s = (⟨#[120, 111, 114, 105]⟩ : ByteArray) then s.extract 0 (s.size - 1) else
  if s = (⟨#[111, 114, 105]⟩ : ByteArray) then s.extract 0 (s.size - 1) else
  if s = (⟨#[97, 110, 100, 105]⟩ : ByteArray) then s.extract 0 (s.size - 1) else
  if s = (⟨#[115, 108, 108, 105]⟩ : ByteArray) then s.extract 0 (s.size - 1) else
  if s = (⟨#[115, 114, 108, 105]⟩ : ByteArray) then s.extract 0 (s.size - 1) else
  if s = (⟨#[115, 114, 97, 105]⟩ : ByteArray) then s.extract 0 (s.size - 1) else
  if s = (⟨#[115, 108, 116, 105, 117]⟩ : ByteArray) then (⟨#[115, 108, 116, 117]⟩ : ByteArray) else
  if s = (⟨#[97, 100, 100, 105, 119]⟩ : ByteArray) then s.extract 0 (s.size - 2) ++ (⟨#[119]⟩ : ByteArray) else
  if s = (⟨#[115, 108, 108, 105, 119]⟩ : ByteArray) then s.extract 0 (s.size - 2) ++ (⟨#[119]⟩ : ByteArray) else
  if s = (⟨#[115, 114, 108, 105, 119]⟩ : ByteArray) then s.extract 0 (s.size - 2) ++ (⟨#[119]⟩ : ByteArray) else
  if s = (⟨#[115, 114, 97, 105, 119]⟩ : ByteArray) then s.extract 0 (s.size - 2) ++ (⟨#[119]⟩ : ByteArray) else s
def nameA (op : Int) : ByteArray := if classI op = 1 then nameS (nm op.toNat) else ⟨#[]⟩
theorem nameS_size : ∀ k, k < 99 → (nm k).size ≤ 100 ∧ (classI k = 1 → 1 ≤ (nm k).size ∧ (nameS (nm k)).size ≤ 100 ∧ ¬ nameS (nm k) = ⟨#[]⟩ ∧ codeS (nameS (nm k)) = canI k) := by decide +kernel

end
end Go.Proofs.Ytanblagbkhpolaa
