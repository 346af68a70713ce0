/- Contracts of layer 26, and of its reference. -/
import Derived.Test.YthjhkckndnhjpaaR2
import Derived.Test.YthjhkckndnhjpaaB2
namespace Go.Proofs.Ythjhkckndnhjpaa
open Go.Am
set_option linter.unusedSimpArgs false
set_option linter.unusedVariables false
noncomputable section

def thB (l : Int) : Bool := decide (0 ≤ l) && decide (l ≤ 2)
theorem thB_t {l : Int} (h : 0 ≤ l ∧ l ≤ 2) : thB l = true := by simp [thB, h]
theorem thB_f {l : Int} (h : ¬ (0 ≤ l ∧ l ≤ 2)) : thB l = false := by simp [thB]; omega
def placeU (v : BitVec 64) (l : Int) : Int := if thB l = true then (cutU v (12 + 9 * l) 9).toInt else 0
def vsizeU (l : Int) : BitVec 64 := if thB l = true then 1#64 <<< (12 + 9 * l).toNat else 0#64
def vpageU (v : BitVec 64) (l : Int) : BitVec 64 := if thB l = true then v &&& ~~~(vsizeU l - 1#64) else v
def ventryU (p v : BitVec 64) (l : Int) : BitVec 64 := if thB l = true then lowU p 44 <<< 12 ||| BitVec.ofInt 64 (placeU v l) <<< 3 else 0#64
def asidI (s : BitVec 64) : Int := IntKind.u16.wrap ((s >>> 44).toNat : Int)
def satpU (m a : Int) (r : BitVec 64) : BitVec 64 := BitVec.ofInt 64 m <<< 60 ||| BitVec.ofInt 64 (IntKind.u16.wrap a) <<< 44 ||| lowU r 44
def transB (s : BitVec 64) (p : Int) : Bool := decide ((s >>> 60).toInt = 8) && (decide (p = 0) || decide (p = 1))

end
end Go.Proofs.Ythjhkckndnhjpaa
