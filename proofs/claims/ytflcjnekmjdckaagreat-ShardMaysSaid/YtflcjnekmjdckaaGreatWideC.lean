/- Contracts of layer 2's reference: quotients; and of the examples that must be. -/
import Derived.Test.YtflcjnekmjdckaaGreatWideB
namespace Go.Proofs.YtflcjnekmjdckaaGreat
open Go.Am
set_option linter.unusedSimpArgs false
set_option linter.unusedVariables false
noncomputable section

def refDivU (a b : BitVec 64) (pl : Bool) : BitVec 64 :=
  if b = 0#64 then 18446744073709551615#64 else
  if pl = true then ovQh 0#64 a b 64 64 else
  if belowU a = belowU b then ovQh 0#64 (amountU a) (amountU b) 64 64 else 0#64 - ovQh 0#64 (amountU a) (amountU b) 64 64
def refRemU (a b : BitVec 64) (pl : Bool) : BitVec 64 :=
  if b = 0#64 then a else
  if pl = true then ovR 0#64 a b 128 else
  if belowU a = true then 0#64 - ovR 0#64 (amountU a) (amountU b) 128 else ovR 0#64 (amountU a) (amountU b) 128



theorem live_times : timesHi 9223372036854775808#64 6#64 = 3#64 ∧ timesLo 9223372036854775808#64 6#64 = 0#64 ∧ timesHi 18446744073709551615#64 18446744073709551615#64 = 18446744073709551614#64 ∧ divS 18446744073709551609#64 2#64 = 18446744073709551613#64 := by decide

end
end Go.Proofs.YtflcjnekmjdckaaGreat
