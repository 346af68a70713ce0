/- Layer 7: what instructions reckon: contracts. -/
import Derived.Test.YtanblagbkhpolaaK1
import Derived.Test.YtanblagbkhpolaaWideX
import Derived.Test.YtanblagbkhpolaaWideZ
import Derived.Test.YtanblagbkhpolaaR3
namespace Go.Proofs.Ytanblagbkhpolaa
open Go.Am
set_option linter.unusedSimpArgs false
set_option linter.unusedVariables false
noncomputable section

/-- what an op, told by its number, reckons -/
def aluV (c : Int) (a b : BitVec 64) : BitVec 64 :=
  if c = 31 then a + b else
  if c = 32 then a - b else
  if c = 33 then shiftU a (b.toNat % 64 : Nat) else
  if c = 34 then b2 (decide (a.toInt < b.toInt)) else
  if c = 35 then b2 (decide (a < b)) else
  if c = 36 then a ^^^ b else
  if c = 37 then shiftU a (-(b.toNat % 64 : Nat)) else
  if c = 38 then sraU a (b.toNat % 64) else
  if c = 39 then a ||| b else
  if c = 40 then a &&& b else
  if c = 45 then signU (a + b) 32 else
  if c = 46 then signU (a - b) 32 else
  if c = 47 then signU (shiftU a (b.toNat % 32 : Nat)) 32 else
  if c = 48 then signU (shiftU (lowU a 32) (-(b.toNat % 32 : Nat))) 32 else
  if c = 49 then sraU (signU a 32) (b.toNat % 32) else
  if c = 54 then a * b else
  if c = 55 then highU a b else
  if c = 56 then highMixedU a b else
  if c = 57 then timesHi a b else
  if c = 58 then divS a b else
  if c = 59 then divU a b else
  if c = 60 then a - b * divS a b else
  if c = 61 then a - b * divU a b else
  if c = 62 then signU (signU a 32 * signU b 32) 32 else
  if c = 63 then signU (divS (signU a 32) (signU b 32)) 32 else
  if c = 64 then signU (divU (lowU a 32) (lowU b 32)) 32 else
  if c = 65 then signU (signU a 32 - signU b 32 * divS (signU a 32) (signU b 32)) 32 else
  if c = 66 then signU (lowU a 32 - lowU b 32 * divU (lowU a 32) (lowU b 32)) 32 else 0#64
/-- an op with a number, as the one without -/
def canI (c : Int) : Int :=
  if c = 22 then 31 else
  if c = 23 then 34 else
  if c = 24 then 35 else
  if c = 25 then 36 else
  if c = 26 then 39 else
  if c = 27 then 40 else
  if c = 28 then 33 else
  if c = 29 then 37 else
  if c = 30 then 38 else
  if c = 41 then 45 else
  if c = 42 then 47 else
  if c = 43 then 48 else
  if c = 44 then 49 else c
theorem aV_add {a b : BitVec 64} : aluV 31 a b = a + b := rfl
theorem aV_sub {a b : BitVec 64} : aluV 32 a b = a - b := rfl
theorem aV_sll {a b : BitVec 64} : aluV 33 a b = shiftU a (b.toNat % 64 : Nat) := rfl
theorem aV_slt {a b : BitVec 64} : aluV 34 a b = b2 (decide (a.toInt < b.toInt)) := rfl
theorem aV_sltu {a b : BitVec 64} : aluV 35 a b = b2 (decide (a < b)) := rfl
theorem aV_xor {a b : BitVec 64} : aluV 36 a b = a ^^^ b := rfl
theorem aV_srl {a b : BitVec 64} : aluV 37 a b = shiftU a (-(b.toNat % 64 : Nat)) := rfl
theorem aV_sra {a b : BitVec 64} : aluV 38 a b = sraU a (b.toNat % 64) := rfl
theorem aV_or {a b : BitVec 64} : aluV 39 a b = a ||| b := rfl
theorem aV_and {a b : BitVec 64} : aluV 40 a b = a &&& b := rfl
theorem aV_addw {a b : BitVec 64} : aluV 45 a b = signU (a + b) 32 := rfl
theorem aV_subw {a b : BitVec 64} : aluV 46 a b = signU (a - b) 32 := rfl
theorem aV_sllw {a b : BitVec 64} : aluV 47 a b = signU (shiftU a (b.toNat % 32 : Nat)) 32 := rfl
theorem aV_srlw {a b : BitVec 64} : aluV 48 a b = signU (shiftU (lowU a 32) (-(b.toNat % 32 : Nat))) 32 := rfl
theorem aV_sraw {a b : BitVec 64} : aluV 49 a b = sraU (signU a 32) (b.toNat % 32) := rfl
theorem aV_mul {a b : BitVec 64} : aluV 54 a b = a * b := rfl
theorem aV_mulh {a b : BitVec 64} : aluV 55 a b = highU a b := rfl
theorem aV_mulhsu {a b : BitVec 64} : aluV 56 a b = highMixedU a b := rfl
theorem aV_mulhu {a b : BitVec 64} : aluV 57 a b = timesHi a b := rfl
theorem aV_div {a b : BitVec 64} : aluV 58 a b = divS a b := rfl
theorem aV_divu {a b : BitVec 64} : aluV 59 a b = divU a b := rfl
theorem aV_rem {a b : BitVec 64} : aluV 60 a b = a - b * divS a b := rfl
theorem aV_remu {a b : BitVec 64} : aluV 61 a b = a - b * divU a b := rfl
theorem aV_mulw {a b : BitVec 64} : aluV 62 a b = signU (signU a 32 * signU b 32) 32 := rfl
theorem aV_divw {a b : BitVec 64} : aluV 63 a b = signU (divS (signU a 32) (signU b 32)) 32 := rfl
theorem aV_divuw {a b : BitVec 64} : aluV 64 a b = signU (divU (lowU a 32) (lowU b 32)) 32 := rfl
theorem aV_remw {a b : BitVec 64} : aluV 65 a b = signU (signU a 32 - signU b 32 * divS (signU a 32) (signU b 32)) 32 := rfl
theorem aV_remuw {a b : BitVec 64} : aluV 66 a b = signU (lowU a 32 - lowU b 32 * divU (lowU a 32) (lowU b 32)) 32 := rfl
def prodF (op : Int) : Nat :=
  if op = 54 then 900001 else
  if op = 55 then 900006 else
  if op = 56 then 900007 else
  if op = 57 then 900008 else
  if op = 58 then 900002 else
  if op = 59 then 900004 else
  if op = 60 then 900003 else 900005
theorem s_short_eqs : True := trivial
set_option maxRecDepth 100000 in
set_option maxHeartbeats 2000000 in
theorem class_1 {op : Int} : (classI op = 1) = ((22 ≤ op ∧ op ≤ 49) ∨ (54 ≤ op ∧ op ≤ 66)) := by
  apply propext
  simp only [classI, wiB, Bool.and_eq_true, decide_eq_true_eq]
  repeat' split
  all_goals omega
def adoU (op : Int) (a b : BitVec 64) : BitVec 64 := if classI op = 1 then aluV (canI op) a b else 0#64
theorem canI_id {op : Int} (h : 54 ≤ op) : canI op = op := by
  unfold canI
  repeat rw [if_neg (by omega)]

end
end Go.Proofs.Ytanblagbkhpolaa
