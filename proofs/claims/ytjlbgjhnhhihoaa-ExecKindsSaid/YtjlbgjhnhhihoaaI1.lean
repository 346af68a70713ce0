/- Layer 3: the tables of ops (printed by gi.py): contracts. -/
import Derived.Test.YtjlbgjhnhhihoaaB1
namespace Go.Proofs.Ytjlbgjhnhhihoaa
open Go.Am
set_option linter.unusedSimpArgs false
set_option linter.unusedVariables false
noncomputable section

/-- operations of words of 32 bits -/
def andK (a b : Int) : Int := IntKind.u32.wrap ((BitVec.ofInt 32 a &&& BitVec.ofInt 32 b).toNat)
def orK (a b : Int) : Int := IntKind.u32.wrap ((BitVec.ofInt 32 a ||| BitVec.ofInt 32 b).toNat)
def xorK (a b : Int) : Int := IntKind.u32.wrap ((BitVec.ofInt 32 a ^^^ BitVec.ofInt 32 b).toNat)
def anK (a b : Int) : Int := IntKind.u32.wrap ((BitVec.ofInt 32 a &&& ~~~(BitVec.ofInt 32 b)).toNat)
def shlK (a : Int) (n : Nat) : Int := IntKind.u32.wrap (a * 2 ^ (min n 32))
section
variable {P : Program} {t : Nat} {x y : Int}
theorem a32_and : abin P .and t (.c (.k .u32 x)) (.c (.k .u32 y)) = some (.c (.k .u32 (andK x y))) := ab_k_and
theorem a32_or : abin P .or t (.c (.k .u32 x)) (.c (.k .u32 y)) = some (.c (.k .u32 (orK x y))) := ab_k_or
theorem a32_xor : abin P .xor t (.c (.k .u32 x)) (.c (.k .u32 y)) = some (.c (.k .u32 (xorK x y))) := ab_k_xor
theorem a32_an : abin P .andNot t (.c (.k .u32 x)) (.c (.k .u32 y)) = some (.c (.k .u32 (anK x y))) := ab_k_andNot
theorem a32_shl {y : BitVec 64} : abin P .shl t (.c (.k .u32 x)) (.c (.u y)) = some (.c (.k .u32 (shlK x y.toNat))) := rfl
end
attribute [go_sem 1100] a32_and a32_or a32_xor a32_an a32_shl

def plainT (op : Int) : Int × Int × Int :=
  if op = 1 then (55, 0, 0) else
  if op = 2 then (23, 0, 0) else
  if op = 3 then (111, 0, 0) else
  if op = 4 then (103, 0, 0) else
  if op = 5 then (99, 0, 0) else
  if op = 6 then (99, 1, 0) else
  if op = 7 then (99, 4, 0) else
  if op = 8 then (99, 5, 0) else
  if op = 9 then (99, 6, 0) else
  if op = 10 then (99, 7, 0) else
  if op = 11 then (3, 0, 0) else
  if op = 12 then (3, 1, 0) else
  if op = 13 then (3, 2, 0) else
  if op = 14 then (3, 3, 0) else
  if op = 15 then (3, 4, 0) else
  if op = 16 then (3, 5, 0) else
  if op = 17 then (3, 6, 0) else
  if op = 18 then (35, 0, 0) else
  if op = 19 then (35, 1, 0) else
  if op = 20 then (35, 2, 0) else
  if op = 21 then (35, 3, 0) else
  if op = 22 then (19, 0, 0) else
  if op = 23 then (19, 2, 0) else
  if op = 24 then (19, 3, 0) else
  if op = 25 then (19, 4, 0) else
  if op = 26 then (19, 6, 0) else
  if op = 27 then (19, 7, 0) else
  if op = 28 then (19, 1, 0) else
  (0, 0, 0)

set_option maxHeartbeats 8000000 in

def regT (op : Int) : Int × Int × Int :=
  if op = 29 then (19, 5, 0) else
  if op = 30 then (19, 5, 32) else
  if op = 31 then (51, 0, 0) else
  if op = 32 then (51, 0, 32) else
  if op = 33 then (51, 1, 0) else
  if op = 34 then (51, 2, 0) else
  if op = 35 then (51, 3, 0) else
  if op = 36 then (51, 4, 0) else
  if op = 37 then (51, 5, 0) else
  if op = 38 then (51, 5, 32) else
  if op = 39 then (51, 6, 0) else
  if op = 40 then (51, 7, 0) else
  if op = 41 then (27, 0, 0) else
  if op = 42 then (27, 1, 0) else
  if op = 43 then (27, 5, 0) else
  if op = 44 then (27, 5, 32) else
  if op = 45 then (59, 0, 0) else
  if op = 46 then (59, 0, 32) else
  if op = 47 then (59, 1, 0) else
  if op = 48 then (59, 5, 0) else
  if op = 49 then (59, 5, 32) else
  if op = 50 then (15, 0, 0) else
  if op = 51 then (15, 1, 0) else
  if op = 52 then (115, 0, 115) else
  if op = 53 then (115, 0, 1048691) else
  if op = 54 then (51, 0, 1) else
  if op = 55 then (51, 1, 1) else
  if op = 56 then (51, 2, 1) else
  (0, 0, 0)

set_option maxHeartbeats 8000000 in

def moreT (op : Int) : Int × Int × Int :=
  if op = 57 then (51, 3, 1) else
  if op = 58 then (51, 4, 1) else
  if op = 59 then (51, 5, 1) else
  if op = 60 then (51, 6, 1) else
  if op = 61 then (51, 7, 1) else
  if op = 62 then (59, 0, 1) else
  if op = 63 then (59, 4, 1) else
  if op = 64 then (59, 5, 1) else
  if op = 65 then (59, 6, 1) else
  if op = 66 then (59, 7, 1) else
  if op = 67 then (47, 2, 8) else
  if op = 68 then (47, 2, 12) else
  if op = 69 then (47, 2, 4) else
  if op = 70 then (47, 2, 0) else
  if op = 71 then (47, 2, 16) else
  if op = 72 then (47, 2, 48) else
  if op = 73 then (47, 2, 32) else
  if op = 74 then (47, 2, 64) else
  if op = 75 then (47, 2, 80) else
  if op = 76 then (47, 2, 96) else
  if op = 77 then (47, 2, 112) else
  if op = 78 then (47, 3, 8) else
  if op = 79 then (47, 3, 12) else
  if op = 80 then (47, 3, 4) else
  if op = 81 then (47, 3, 0) else
  if op = 82 then (47, 3, 16) else
  if op = 83 then (47, 3, 48) else
  if op = 84 then (47, 3, 32) else
  (0, 0, 0)

set_option maxHeartbeats 8000000 in

def lastT (op : Int) : Int × Int × Int :=
  if op = 85 then (47, 3, 64) else
  if op = 86 then (47, 3, 80) else
  if op = 87 then (47, 3, 96) else
  if op = 88 then (47, 3, 112) else
  if op = 89 then (115, 1, 0) else
  if op = 90 then (115, 2, 0) else
  if op = 91 then (115, 3, 0) else
  if op = 92 then (115, 5, 0) else
  if op = 93 then (115, 6, 0) else
  if op = 94 then (115, 7, 0) else
  if op = 95 then (115, 0, 807403635) else
  if op = 96 then (115, 0, 270532723) else
  if op = 97 then (115, 0, 273678451) else
  if op = 98 then (115, 0, 9) else
  (0, 0, 0)

set_option maxHeartbeats 8000000 in

def fmtT (op : Int) : Int :=
  if op = 31 then 1 else
  if op = 32 then 1 else
  if op = 33 then 1 else
  if op = 34 then 1 else
  if op = 35 then 1 else
  if op = 36 then 1 else
  if op = 37 then 1 else
  if op = 38 then 1 else
  if op = 39 then 1 else
  if op = 40 then 1 else
  if op = 45 then 1 else
  if op = 46 then 1 else
  if op = 47 then 1 else
  if op = 48 then 1 else
  if op = 49 then 1 else
  if op = 54 then 1 else
  if op = 55 then 1 else
  if op = 56 then 1 else
  if op = 57 then 1 else
  if op = 58 then 1 else
  if op = 59 then 1 else
  if op = 60 then 1 else
  if op = 61 then 1 else
  if op = 62 then 1 else
  if op = 63 then 1 else
  if op = 64 then 1 else
  if op = 65 then 1 else
  if op = 66 then 1 else
  if op = 4 then 2 else
  if op = 11 then 2 else
  if op = 12 then 2 else
  if op = 13 then 2 else
  if op = 14 then 2 else
  if op = 15 then 2 else
  if op = 16 then 2 else
  if op = 17 then 2 else
  if op = 22 then 2 else
  if op = 23 then 2 else
  if op = 24 then 2 else
  if op = 25 then 2 else
  if op = 26 then 2 else
  if op = 27 then 2 else
  if op = 41 then 2 else
  if op = 50 then 2 else
  if op = 51 then 2 else
  if op = 18 then 3 else
  if op = 19 then 3 else
  if op = 20 then 3 else
  if op = 21 then 3 else
  if op = 5 then 4 else
  if op = 6 then 4 else
  if op = 7 then 4 else
  if op = 8 then 4 else
  if op = 9 then 4 else
  if op = 10 then 4 else
  if op = 1 then 5 else
  if op = 2 then 5 else
  if op = 3 then 6 else
  if op = 28 then 7 else
  if op = 29 then 7 else
  if op = 30 then 7 else
  if op = 42 then 8 else
  if op = 43 then 8 else
  if op = 44 then 8 else
  if op = 89 then 9 else
  if op = 90 then 9 else
  if op = 91 then 9 else
  if op = 92 then 10 else
  if op = 93 then 10 else
  if op = 94 then 10 else
  if op = 68 then 11 else
  if op = 69 then 11 else
  if op = 70 then 11 else
  if op = 71 then 11 else
  if op = 72 then 11 else
  if op = 73 then 11 else
  if op = 74 then 11 else
  if op = 75 then 11 else
  if op = 76 then 11 else
  if op = 77 then 11 else
  if op = 79 then 11 else
  if op = 80 then 11 else
  if op = 81 then 11 else
  if op = 82 then 11 else
  if op = 83 then 11 else
  if op = 84 then 11 else
  if op = 85 then 11 else
  if op = 86 then 11 else
  if op = 87 then 11 else
  if op = 88 then 11 else
  if op = 67 then 12 else
  if op = 78 then 12 else
  if op = 52 then 13 else
  if op = 53 then 13 else
  if op = 95 then 13 else
  if op = 96 then 13 else
  if op = 97 then 13 else
  if op = 98 then 14 else
  0

set_option maxHeartbeats 16000000 in
def s_iformat (args : List AV) : Option AV :=
  match args with
  | [.c (.i op)] => some (.c (.i (fmtT op)))
  | _ => none
theorem s_iformat_eq {op} : s_iformat [.c (.i op)] = some (.c (.i (fmtT op))) := rfl
set_option maxRecDepth 100000 in
set_option maxHeartbeats 2000000 in
theorem ok_iformat : PuOk Try.prog 44 s_iformat := by
  refine pu_ok (tab := []) hmix TabOk.nil Try.func44 rfl Try.results44 Try.ntmps44 (by kernel_rfl) (by kernel_rfl) ?_
  intro args v h
  unfold s_iformat at h
  split at h
  · rename_i op
    simp only [Option.some.injEq] at h; subst h
    refine ⟨by simp only [List.length_cons, List.length_nil]; decide, rfl, rfl, ?_⟩
    (try simp (config := { maxSteps := 10000000 }) only [go_sem, List.reduceReplicate, BitVec.reduceOfInt, BitVec.reduceToNat, BitVec.reduceToInt, BitVec.reduceEq, BitVec.reduceLT, BitVec.reduceLE, BitVec.reduceAdd, BitVec.reduceSub, BitVec.reduceMul, BitVec.reduceUDiv, BitVec.reduceUMod, BitVec.reduceAnd, BitVec.reduceOr, BitVec.reduceXOr, BitVec.reduceNot, BitVec.reduceNeg, BitVec.reduceHShiftLeft, BitVec.reduceHShiftRight, Nat.reduceAdd, Nat.reduceMul, Nat.reduceSub, Nat.reduceBEq, Nat.reduceEqDiff, Nat.reduceLeDiff, Nat.reduceLT, Int.reduceLE, Int.reduceLT, Int.reduceAdd, Int.reduceSub, Int.reduceMul, Int.reduceNeg, Int.reduceToNat, Int.reduceEq, ↓reduceIte, reduceCtorEq]; repeat (simp (disch := omega) only [w64_d, ipos, ineg, dpos, dneg]; try simp (config := { maxSteps := 10000000 }) only [go_sem, List.reduceReplicate, BitVec.reduceOfInt, BitVec.reduceToNat, BitVec.reduceToInt, BitVec.reduceEq, BitVec.reduceLT, BitVec.reduceLE, BitVec.reduceAdd, BitVec.reduceSub, BitVec.reduceMul, BitVec.reduceUDiv, BitVec.reduceUMod, BitVec.reduceAnd, BitVec.reduceOr, BitVec.reduceXOr, BitVec.reduceNot, BitVec.reduceNeg, BitVec.reduceHShiftLeft, BitVec.reduceHShiftRight, Nat.reduceAdd, Nat.reduceMul, Nat.reduceSub, Nat.reduceBEq, Nat.reduceEqDiff, Nat.reduceLeDiff, Nat.reduceLT, Int.reduceLE, Int.reduceLT, Int.reduceAdd, Int.reduceSub, Int.reduceMul, Int.reduceNeg, Int.reduceToNat, Int.reduceEq, ↓reduceIte, reduceCtorEq]))
    repeat' (first
      | (refine cnd_by (fun h => ?_) (fun h => ?_) <;> (try simp only [decide_eq_true_eq, decide_eq_false_iff_not, Bool.not_eq_true', Bool.not_eq_false', Bool.not_eq_true, Bool.not_eq_false, Bool.and_eq_true, beq_iff_eq, beq_eq_false_iff_ne, ne_eq, Bool.or_eq_true] at h) <;> ((try simp (config := { maxSteps := 10000000 }) only [go_sem, List.reduceReplicate, BitVec.reduceOfInt, BitVec.reduceToNat, BitVec.reduceToInt, BitVec.reduceEq, BitVec.reduceLT, BitVec.reduceLE, BitVec.reduceAdd, BitVec.reduceSub, BitVec.reduceMul, BitVec.reduceUDiv, BitVec.reduceUMod, BitVec.reduceAnd, BitVec.reduceOr, BitVec.reduceXOr, BitVec.reduceNot, BitVec.reduceNeg, BitVec.reduceHShiftLeft, BitVec.reduceHShiftRight, Nat.reduceAdd, Nat.reduceMul, Nat.reduceSub, Nat.reduceBEq, Nat.reduceEqDiff, Nat.reduceLeDiff, Nat.reduceLT, Int.reduceLE, Int.reduceLT, Int.reduceAdd, Int.reduceSub, Int.reduceMul, Int.reduceNeg, Int.reduceToNat, Int.reduceEq, ↓reduceIte, reduceCtorEq, h]; repeat (simp (disch := omega) only [w64_d, ipos, ineg, dpos, dneg]; try simp (config := { maxSteps := 10000000 }) only [go_sem, List.reduceReplicate, BitVec.reduceOfInt, BitVec.reduceToNat, BitVec.reduceToInt, BitVec.reduceEq, BitVec.reduceLT, BitVec.reduceLE, BitVec.reduceAdd, BitVec.reduceSub, BitVec.reduceMul, BitVec.reduceUDiv, BitVec.reduceUMod, BitVec.reduceAnd, BitVec.reduceOr, BitVec.reduceXOr, BitVec.reduceNot, BitVec.reduceNeg, BitVec.reduceHShiftLeft, BitVec.reduceHShiftRight, Nat.reduceAdd, Nat.reduceMul, Nat.reduceSub, Nat.reduceBEq, Nat.reduceEqDiff, Nat.reduceLeDiff, Nat.reduceLT, Int.reduceLE, Int.reduceLT, Int.reduceAdd, Int.reduceSub, Int.reduceMul, Int.reduceNeg, Int.reduceToNat, Int.reduceEq, ↓reduceIte, reduceCtorEq, h]))))
      | (refine grd_by (fun h => ?_) (fun h => ?_) <;> (try simp only [decide_eq_true_eq, decide_eq_false_iff_not, Bool.not_eq_true', Bool.not_eq_false', Bool.not_eq_true, Bool.not_eq_false, Bool.and_eq_true, beq_iff_eq, beq_eq_false_iff_ne, ne_eq, Bool.or_eq_true] at h) <;> ((try simp (config := { maxSteps := 10000000 }) only [go_sem, List.reduceReplicate, BitVec.reduceOfInt, BitVec.reduceToNat, BitVec.reduceToInt, BitVec.reduceEq, BitVec.reduceLT, BitVec.reduceLE, BitVec.reduceAdd, BitVec.reduceSub, BitVec.reduceMul, BitVec.reduceUDiv, BitVec.reduceUMod, BitVec.reduceAnd, BitVec.reduceOr, BitVec.reduceXOr, BitVec.reduceNot, BitVec.reduceNeg, BitVec.reduceHShiftLeft, BitVec.reduceHShiftRight, Nat.reduceAdd, Nat.reduceMul, Nat.reduceSub, Nat.reduceBEq, Nat.reduceEqDiff, Nat.reduceLeDiff, Nat.reduceLT, Int.reduceLE, Int.reduceLT, Int.reduceAdd, Int.reduceSub, Int.reduceMul, Int.reduceNeg, Int.reduceToNat, Int.reduceEq, ↓reduceIte, reduceCtorEq, h]; repeat (simp (disch := omega) only [w64_d, ipos, ineg, dpos, dneg]; try simp (config := { maxSteps := 10000000 }) only [go_sem, List.reduceReplicate, BitVec.reduceOfInt, BitVec.reduceToNat, BitVec.reduceToInt, BitVec.reduceEq, BitVec.reduceLT, BitVec.reduceLE, BitVec.reduceAdd, BitVec.reduceSub, BitVec.reduceMul, BitVec.reduceUDiv, BitVec.reduceUMod, BitVec.reduceAnd, BitVec.reduceOr, BitVec.reduceXOr, BitVec.reduceNot, BitVec.reduceNeg, BitVec.reduceHShiftLeft, BitVec.reduceHShiftRight, Nat.reduceAdd, Nat.reduceMul, Nat.reduceSub, Nat.reduceBEq, Nat.reduceEqDiff, Nat.reduceLeDiff, Nat.reduceLT, Int.reduceLE, Int.reduceLT, Int.reduceAdd, Int.reduceSub, Int.reduceMul, Int.reduceNeg, Int.reduceToNat, Int.reduceEq, ↓reduceIte, reduceCtorEq, h]))))
      | (refine grdd_by (fun h => ?_) (fun h => ?_) <;> (try simp only [decide_eq_true_eq, decide_eq_false_iff_not, Bool.not_eq_true', Bool.not_eq_false', Bool.not_eq_true, Bool.not_eq_false, Bool.and_eq_true, beq_iff_eq, beq_eq_false_iff_ne, ne_eq, Bool.or_eq_true] at h) <;> ((try simp (config := { maxSteps := 10000000 }) only [go_sem, List.reduceReplicate, BitVec.reduceOfInt, BitVec.reduceToNat, BitVec.reduceToInt, BitVec.reduceEq, BitVec.reduceLT, BitVec.reduceLE, BitVec.reduceAdd, BitVec.reduceSub, BitVec.reduceMul, BitVec.reduceUDiv, BitVec.reduceUMod, BitVec.reduceAnd, BitVec.reduceOr, BitVec.reduceXOr, BitVec.reduceNot, BitVec.reduceNeg, BitVec.reduceHShiftLeft, BitVec.reduceHShiftRight, Nat.reduceAdd, Nat.reduceMul, Nat.reduceSub, Nat.reduceBEq, Nat.reduceEqDiff, Nat.reduceLeDiff, Nat.reduceLT, Int.reduceLE, Int.reduceLT, Int.reduceAdd, Int.reduceSub, Int.reduceMul, Int.reduceNeg, Int.reduceToNat, Int.reduceEq, ↓reduceIte, reduceCtorEq, h]; repeat (simp (disch := omega) only [w64_d, ipos, ineg, dpos, dneg]; try simp (config := { maxSteps := 10000000 }) only [go_sem, List.reduceReplicate, BitVec.reduceOfInt, BitVec.reduceToNat, BitVec.reduceToInt, BitVec.reduceEq, BitVec.reduceLT, BitVec.reduceLE, BitVec.reduceAdd, BitVec.reduceSub, BitVec.reduceMul, BitVec.reduceUDiv, BitVec.reduceUMod, BitVec.reduceAnd, BitVec.reduceOr, BitVec.reduceXOr, BitVec.reduceNot, BitVec.reduceNeg, BitVec.reduceHShiftLeft, BitVec.reduceHShiftRight, Nat.reduceAdd, Nat.reduceMul, Nat.reduceSub, Nat.reduceBEq, Nat.reduceEqDiff, Nat.reduceLeDiff, Nat.reduceLT, Int.reduceLE, Int.reduceLT, Int.reduceAdd, Int.reduceSub, Int.reduceMul, Int.reduceNeg, Int.reduceToNat, Int.reduceEq, ↓reduceIte, reduceCtorEq, h])))))
    all_goals first | (subst h; rfl) | simp [fmtT, *]
  · simp at h

def maskT (op : Int) : Int :=
  if op = 5 then 127 else
  if op = 6 then 127 else
  if op = 2 then 28799 else
  if op = 3 then 28799 else
  if op = 4 then 28799 else
  if op = 9 then 28799 else
  if op = 10 then 28799 else
  if op = 1 then 4261441663 else
  if op = 8 then 4261441663 else
  if op = 7 then 4227887231 else
  if op = 11 then 4160778367 else
  if op = 12 then 4193284223 else
  if op = 13 then 4294967295 else
  if op = 14 then 4261445631 else
  0


def codeT (op : Int) : Int × Int × Int := if op ≤ 28 then plainT op else if op ≤ 56 then regT op else if op ≤ 84 then moreT op else lastT op
def fixM (op : Int) : Int := maskT (fmtT op)
def fixV (op : Int) : Int := if fmtT op = 13 then (codeT op).2.2 else orK (orK (codeT op).1 (shlK (codeT op).2.1 12)) (shlK (codeT op).2.2 25)
end
end Go.Proofs.Ytjlbgjhnhhihoaa
