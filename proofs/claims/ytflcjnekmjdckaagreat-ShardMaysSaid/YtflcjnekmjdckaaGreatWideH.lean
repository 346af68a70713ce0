/- Contracts of layer 2's products with signs. -/
import Derived.Test.YtflcjnekmjdckaaGreatWideT
namespace Go.Proofs.YtflcjnekmjdckaaGreat
open Go.Am
set_option linter.unusedSimpArgs false
set_option linter.unusedVariables false
noncomputable section


def sizeU (a : BitVec 64) : BitVec 64 := if a.toInt < 0 then -a else a
def negHi (h l : BitVec 64) : BitVec 64 := ~~~h + 0#64 + carryU (~~~l) 1#64
def highMixedU (a b : BitVec 64) : BitVec 64 := if a.toInt < 0 then negHi (timesHi (sizeU a) b) (timesLo (sizeU a) b) else timesHi (sizeU a) b
def highU (a b : BitVec 64) : BitVec 64 := if decide (a.toInt < 0) = decide (b.toInt < 0) then timesHi (sizeU a) (sizeU b) else negHi (timesHi (sizeU a) (sizeU b)) (timesLo (sizeU a) (sizeU b))

end
end Go.Proofs.YtflcjnekmjdckaaGreat
