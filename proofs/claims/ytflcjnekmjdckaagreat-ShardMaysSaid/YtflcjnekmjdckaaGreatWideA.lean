/- Contracts of the functions of layer 2: what each returns, for every input. -/
import Derived.Test.YtflcjnekmjdckaaGreatTy
namespace Go.Proofs.YtflcjnekmjdckaaGreat
open Go.Am
set_option linter.unusedSimpArgs false
set_option linter.unusedVariables false
noncomputable section


def timesLo (a b : BitVec 64) : BitVec 64 := ((a &&& 4294967295#64) * (b >>> 32) + ((a >>> 32) * (b &&& 4294967295#64) + ((a &&& 4294967295#64) * (b &&& 4294967295#64)) >>> 32 &&& 4294967295#64)) <<< 32 ||| (a &&& 4294967295#64) * (b &&& 4294967295#64) &&& 4294967295#64
def timesHi (a b : BitVec 64) : BitVec 64 :=
  (a >>> 32) * (b >>> 32) + ((a >>> 32) * (b &&& 4294967295#64) + ((a &&& 4294967295#64) * (b &&& 4294967295#64)) >>> 32) >>> 32 +
  ((a &&& 4294967295#64) * (b >>> 32) + ((a >>> 32) * (b &&& 4294967295#64) + ((a &&& 4294967295#64) * (b &&& 4294967295#64)) >>> 32 &&& 4294967295#64)) >>> 32



def divS (a b : BitVec 64) : BitVec 64 := if b = 0#64 then 18446744073709551615#64 else if b = 18446744073709551615#64 then -a else BitVec.ofInt 64 (w64 (a.toInt.tdiv b.toInt))

def divU (a b : BitVec 64) : BitVec 64 := if b = 0#64 then 18446744073709551615#64 else a / b


end
end Go.Proofs.YtflcjnekmjdckaaGreat
