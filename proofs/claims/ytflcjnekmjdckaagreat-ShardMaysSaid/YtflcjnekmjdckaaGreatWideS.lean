/- Contracts of layer 2's wide numbers: sums, what is 0 together with one, quotients. -/
import Derived.Test.YtflcjnekmjdckaaGreatWideM
namespace Go.Proofs.YtflcjnekmjdckaaGreat
open Go.Am
set_option linter.unusedSimpArgs false
set_option linter.unusedVariables false
noncomputable section

/-- what is left, and the quotient's word, behind k bits of a part -/
def tk (part b : BitVec 64) (s : BitVec 64 × BitVec 64) : Nat → BitVec 64 × BitVec 64
  | 0 => s
  | k + 1 =>
    if (tk part b s k).1 >>> 63 = 1#64 ∨ b ≤ ((tk part b s k).1 <<< 1 ||| (part >>> (63 - k) &&& 1#64)) then
      (((tk part b s k).1 <<< 1 ||| (part >>> (63 - k) &&& 1#64)) - b, (tk part b s k).2 <<< 1 ||| 1#64)
    else (((tk part b s k).1 <<< 1 ||| (part >>> (63 - k) &&& 1#64)), (tk part b s k).2 <<< 1)
def s_take (args : List AV) (H : AH) : Option (AV × AH) :=
  match args with
  | [.c (.u part), .c (.p i 0 0), .c (.p j 0 0)] =>
    match hg H i, hg H j with
    | .own [.u rest], .own [.u b] => if i = j then none else some (.c (.u (tk part b (rest, 0#64) 64).2), H.set i (.own [.u (tk part b (rest, 0#64) 64).1]))
    | _, _ => none
  | _ => none
theorem len_take (args : List AV) (H : AH) (v : AV) (H1 : AH) (h : s_take args H = some (v, H1)) : H.length ≤ H1.length := by
  unfold s_take at h
  split at h
  · split at h
    · split at h <;> simp at h
      rw [← h.2]; simp
    · simp at h
  · simp at h


def carryU (a b : BitVec 64) : BitVec 64 := if a + b < a then 1#64 else 0#64

end
end Go.Proofs.YtflcjnekmjdckaaGreat
