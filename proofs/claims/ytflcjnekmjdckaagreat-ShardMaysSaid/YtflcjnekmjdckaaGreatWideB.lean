/- Contracts of the functions of layer 2's reference: what each returns, for every input. -/
import Derived.Test.YtflcjnekmjdckaaGreatBit
import Derived.Test.YtflcjnekmjdckaaGreatWideA
namespace Go.Proofs.YtflcjnekmjdckaaGreat
open Go.Am
set_option linter.unusedSimpArgs false
set_option linter.unusedVariables false
noncomputable section

def belowU (a : BitVec 64) : Bool := decide (bitU a 63 = 1#64)

def amountU (a : BitVec 64) : BitVec 64 := if belowU a = true then 0#64 - a else a

/-- the bit of two words that the division takes behind k ones -/
def ovBit (hi lo : BitVec 64) (k : Nat) : BitVec 64 := if (63 : Int) < 127 - k then bitU hi (127 - k - 64) else bitU lo (127 - k)
/-- what is left behind k bits -/
def ovR (hi lo b : BitVec 64) : Nat → BitVec 64
  | 0 => 0#64
  | k + 1 =>
    if (9223372036854775807#64 < ovR hi lo b k ∨ 2#64 * ovR hi lo b k + ovBit hi lo k < 2#64 * ovR hi lo b k) ∨ b ≤ 2#64 * ovR hi lo b k + ovBit hi lo k then 2#64 * ovR hi lo b k + ovBit hi lo k - b
    else 2#64 * ovR hi lo b k + ovBit hi lo k
def ovQ (hi lo b : BitVec 64) (k : Nat) : BitVec 64 :=
  if (9223372036854775807#64 < ovR hi lo b k ∨ 2#64 * ovR hi lo b k + ovBit hi lo k < 2#64 * ovR hi lo b k) ∨ b ≤ 2#64 * ovR hi lo b k + ovBit hi lo k then 1#64 else 0#64
def ovL (hi lo b : BitVec 64) (k : Nat) : List Sc := (List.range k).map fun j => .u (ovQ hi lo b j)
def ovQh (hi lo b : BitVec 64) (at' : Nat) : Nat → BitVec 64
  | 0 => 0#64
  | k + 1 => 2#64 * ovQh hi lo b at' k + ovQ hi lo b (at' + k)
theorem ovL_len {hi lo b : BitVec 64} {k : Nat} : (ovL hi lo b k).length = k := by simp [ovL]
theorem ovL_succ {hi lo b : BitVec 64} {k : Nat} : ovL hi lo b (k + 1) = ovL hi lo b k ++ [.u (ovQ hi lo b k)] := by simp [ovL, List.range_succ]
theorem ovL_get {hi lo b : BitVec 64} {k i : Nat} (h : i < k) : (ovL hi lo b k)[i]? = some (.u (ovQ hi lo b i)) := by simp [ovL, h]


end
end Go.Proofs.YtflcjnekmjdckaaGreat
