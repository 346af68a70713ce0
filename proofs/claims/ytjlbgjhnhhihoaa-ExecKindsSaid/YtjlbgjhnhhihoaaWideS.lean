/- Contracts of layer 2's wide numbers: sums, what is 0 together with one, quotients. -/
import Derived.Test.YtjlbgjhnhhihoaaWideM
namespace Go.Proofs.Ytjlbgjhnhhihoaa
open Go.Am
set_option linter.unusedSimpArgs false
set_option linter.unusedVariables false
noncomputable section

/-- what is left, and the quotient's word, behind k bits of a part -/
def tk (part b : BitVec 64) (s : BitVec 64 × BitVec 64) : Nat → BitVec 64 × BitVec 64
  | 0 => s
  | k + 1 =>
    if (tk part b s k).1 >>> 63 = 1#64 ∨ b ≤ ((tk part b s k).1 <<< 1 ||| (part >>> (63 - k) &&& 1#64)) then
      (((tk part b s k).1 <<< 1 ||| (part >>> (63 - k) &&& 1#64)) - b, (tk part b s k).2 <<< 1 ||| 1#64)
    else (((tk part b s k).1 <<< 1 ||| (part >>> (63 - k) &&& 1#64)), (tk part b s k).2 <<< 1)
def s_take (args : List AV) (H : AH) : Option (AV × AH) :=
  match args with
  | [.c (.u part), .c (.p i 0 0), .c (.p j 0 0)] =>
    match hg H i, hg H j with
    | .own [.u rest], .own [.u b] => if i = j then none else some (.c (.u (tk part b (rest, 0#64) 64).2), H.set i (.own [.u (tk part b (rest, 0#64) 64).1]))
    | _, _ => none
  | _ => none
theorem len_take (args : List AV) (H : AH) (v : AV) (H1 : AH) (h : s_take args H = some (v, H1)) : H.length ≤ H1.length := by
  unfold s_take at h
  split at h
  · split at h
    · split at h <;> simp at h
      rw [← h.2]; simp
    · simp at h
  · simp at h


def carryU (a b : BitVec 64) : BitVec 64 := if a + b < a then 1#64 else 0#64
def s_plus (args : List AV) : Option AV :=
  match args with
  | [.g [.u ah, .u al], .g [.u bh, .u bl]] => some (.g [.u (ah + bh + carryU al bl), .u (al + bl)])
  | _ => none
theorem s_plus_eq {ah al bh bl} : s_plus [.g [.u ah, .u al], .g [.u bh, .u bl]] = some (.g [.u (ah + bh + carryU al bl), .u (al + bl)]) := rfl
set_option maxRecDepth 100000 in
set_option maxHeartbeats 2000000 in
theorem ok_plus : PuOk Try.prog 82 s_plus := by
  refine pu_ok (tab := []) hmix TabOk.nil Try.func82 rfl Try.results82 Try.ntmps82 (by kernel_rfl) (by kernel_rfl) ?_
  intro args v h
  unfold s_plus at h
  split at h
  · rename_i ah al bh bl
    simp only [Option.some.injEq] at h; subst h
    refine ⟨by simp only [List.length_cons, List.length_nil]; decide, rfl, rfl, ?_⟩
    by_cases h : al + bl < al
    · simp (config := { maxSteps := 10000000 }) only [go_sem, List.reduceReplicate, BitVec.reduceOfInt, BitVec.reduceToNat, BitVec.reduceToInt, BitVec.reduceEq, BitVec.reduceLT, BitVec.reduceLE, BitVec.reduceAdd, BitVec.reduceSub, BitVec.reduceMul, BitVec.reduceUDiv, BitVec.reduceUMod, BitVec.reduceAnd, BitVec.reduceOr, BitVec.reduceXOr, BitVec.reduceNot, BitVec.reduceNeg, BitVec.reduceHShiftLeft, BitVec.reduceHShiftRight, Nat.reduceAdd, Nat.reduceMul, Nat.reduceSub, Nat.reduceBEq, Nat.reduceEqDiff, Nat.reduceLeDiff, Nat.reduceLT, Int.reduceLE, Int.reduceLT, Int.reduceAdd, Int.reduceSub, Int.reduceMul, Int.reduceNeg, Int.reduceToNat, Int.reduceEq, ↓reduceIte, reduceCtorEq, carryU, h]
    · simp (config := { maxSteps := 10000000 }) only [go_sem, List.reduceReplicate, BitVec.reduceOfInt, BitVec.reduceToNat, BitVec.reduceToInt, BitVec.reduceEq, BitVec.reduceLT, BitVec.reduceLE, BitVec.reduceAdd, BitVec.reduceSub, BitVec.reduceMul, BitVec.reduceUDiv, BitVec.reduceUMod, BitVec.reduceAnd, BitVec.reduceOr, BitVec.reduceXOr, BitVec.reduceNot, BitVec.reduceNeg, BitVec.reduceHShiftLeft, BitVec.reduceHShiftRight, Nat.reduceAdd, Nat.reduceMul, Nat.reduceSub, Nat.reduceBEq, Nat.reduceEqDiff, Nat.reduceLeDiff, Nat.reduceLT, Int.reduceLE, Int.reduceLT, Int.reduceAdd, Int.reduceSub, Int.reduceMul, Int.reduceNeg, Int.reduceToNat, Int.reduceEq, ↓reduceIte, reduceCtorEq, carryU, h]
  · simp at h
def s_neg (args : List AV) : Option AV :=
  match args with
  | [.g [.u ah, .u al]] => some (.g [.u (~~~ah + 0#64 + carryU (~~~al) 1#64), .u (~~~al + 1#64)])
  | _ => none
theorem s_neg_eq {ah al} : s_neg [.g [.u ah, .u al]] = some (.g [.u (~~~ah + 0#64 + carryU (~~~al) 1#64), .u (~~~al + 1#64)]) := rfl
set_option maxRecDepth 100000 in
set_option maxHeartbeats 2000000 in
theorem ok_neg : PuOk Try.prog 79 s_neg := by
  refine pu_ok (tab := [(82, .pu s_plus)]) hmix (TabOk.cons (e := .pu s_plus) ok_plus TabOk.nil) Try.func79 rfl Try.results79 Try.ntmps79 (by kernel_rfl) (by kernel_rfl) ?_
  intro args v h
  unfold s_neg at h
  split at h
  · rename_i ah al
    simp only [Option.some.injEq] at h; subst h
    refine ⟨by simp only [List.length_cons, List.length_nil]; decide, rfl, rfl, ?_⟩
    simp (config := { maxSteps := 10000000 }) only [go_sem, List.reduceReplicate, BitVec.reduceOfInt, BitVec.reduceToNat, BitVec.reduceToInt, BitVec.reduceEq, BitVec.reduceLT, BitVec.reduceLE, BitVec.reduceAdd, BitVec.reduceSub, BitVec.reduceMul, BitVec.reduceUDiv, BitVec.reduceUMod, BitVec.reduceAnd, BitVec.reduceOr, BitVec.reduceXOr, BitVec.reduceNot, BitVec.reduceNeg, BitVec.reduceHShiftLeft, BitVec.reduceHShiftRight, Nat.reduceAdd, Nat.reduceMul, Nat.reduceSub, Nat.reduceBEq, Nat.reduceEqDiff, Nat.reduceLeDiff, Nat.reduceLT, Int.reduceLE, Int.reduceLT, Int.reduceAdd, Int.reduceSub, Int.reduceMul, Int.reduceNeg, Int.reduceToNat, Int.reduceEq, ↓reduceIte, reduceCtorEq, s_plus_eq]
  · simp at h

end
end Go.Proofs.Ytjlbgjhnhhihoaa
