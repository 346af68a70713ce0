/- Layer 3: encoded words as parts: plain laws. -/
import Derived.Test.YtcfnfdafcfpohaaI9
namespace Go.Proofs.Ytcfnfdafcfpohaa
open Go.Am
set_option linter.unusedSimpArgs false
set_option linter.unusedVariables false
noncomputable section

def layE (f : Int) (n : BitVec 64) : BitVec 32 := BitVec.ofInt 32 (layT f n)
def encE (op rd r1 r2 im cs : Int) (aq rl : Bool) : BitVec 32 :=
  let w := vB op ||| (layE (fmtT op) (BitVec.ofInt 64 im) ||| (BitVec.ofInt 32 rd <<< 7) ||| (BitVec.ofInt 32 r1 <<< 15) ||| (BitVec.ofInt 32 r2 <<< 20) ||| (BitVec.ofInt 32 cs <<< 20))
  let w := if aq = true then w ||| 67108864#32 else w
  if rl = true then w ||| 33554432#32 else w
theorem layE_eq (f : Int) (n : BitVec 64) : layT f n = ((layE f n).toNat : Int) := by
  have k : ∀ x : BitVec 32, (x.toNat : Int) = ((BitVec.ofInt 32 (x.toNat : Int)).toNat : Int) := fun x => by rw [o32]
  unfold layE layT layC
  simp only [wrB, orB]
  repeat' split
  all_goals first | exact k _ | rfl
theorem enc_E {op rd r1 r2 im cs : Int} {aq rl : Bool} (ho : 0 ≤ op ∧ op ≤ 98) (h : checkT (fmtT op) rd r1 r2 im cs aq rl = 0) : encT op rd r1 r2 im cs aq rl = ((encE op rd r1 r2 im cs aq rl).toNat : Int) := by
  have q1 : (67108864 : Int) = ((67108864#32).toNat : Int) := rfl
  have q2 : (33554432 : Int) = ((33554432#32).toNat : Int) := rfl
  unfold encT encE
  rw [if_pos h, (mv_eq ho).2, layE_eq, wrB, wrB, wrB, wrB, q1, q2]
  rw [shlB _ _ (by decide), shlB _ _ (by decide), shlB _ _ (by decide), shlB _ _ (by decide)]
  cases aq <;> cases rl <;> simp only [orB, if_true, Bool.false_eq_true, if_false]
end
end Go.Proofs.Ytcfnfdafcfpohaa
