/- Layer 25: marks, frames; the laws. -/
import Derived.Test.YtanblagbkhpolaaP2c
namespace Go.Proofs.Ytanblagbkhpolaa
open Go.Am
set_option linter.unusedSimpArgs false
set_option linter.unusedVariables false
noncomputable section

def markU (p : BitVec 64) (a : Int) : BitVec 64 := if a = 2 then p ||| 64#64 ||| 128#64 else p ||| 64#64
theorem put6 (p : BitVec 64) (k : Nat) (hk : k < 64) : putU p k 1 1#64 = p ||| 1#64 <<< k := by
  refine (ofG_ext fun i hi => ?_).symm
  rw [BitVec.getLsbD_or, BitVec.getLsbD_shiftLeft]
  by_cases h : i = k
  · subst h
    have hp : inP i 1 i = true := decide_eq_true (by omega)
    have e : (i : Int) - (i : Int) = ((0 : Nat) : Int) := by omega
    rw [hp, if_pos rfl, e, bitB_n]; simp [hi]
  · have hp : inP k 1 i = false := decide_eq_false (by omega)
    rw [hp]
    by_cases h2 : i < k
    · simp [h2]
    · have h3 : i - k ≠ 0 := by omega
      simp [h2, h3]
def s_pmarked (args : List AV) : Option AV :=
  match args with
  | [.c (.u p), .c (.i a)] => some (.t [.c (.u (markU p a)), .c (.b (!decide (markU p a = p)))])
  | _ => none
theorem s_pmarked_eq {p a} : s_pmarked [.c (.u p), .c (.i a)] = some (.t [.c (.u (markU p a)), .c (.b (!decide (markU p a = p)))]) := rfl
set_option maxRecDepth 100000 in
set_option maxHeartbeats 2000000 in
theorem ok_pmarked : PuOk Try.prog 17 s_pmarked := by
  refine pu_ok (tab := []) hmix TabOk.nil Try.func17 rfl Try.results17 Try.ntmps17 (by kernel_rfl) (by kernel_rfl) ?_
  intro args v h
  unfold s_pmarked at h
  split at h
  · rename_i p a
    simp only [Option.some.injEq] at h; subst h
    refine ⟨by simp only [List.length_cons, List.length_nil]; decide, rfl, rfl, ?_⟩
    by_cases h : a = 2
    · simp (config := { maxSteps := 10000000 }) only [go_sem, List.reduceReplicate, BitVec.reduceOfInt, BitVec.reduceToNat, BitVec.reduceToInt, BitVec.reduceEq, BitVec.reduceLT, BitVec.reduceLE, BitVec.reduceAdd, BitVec.reduceSub, BitVec.reduceMul, BitVec.reduceUDiv, BitVec.reduceUMod, BitVec.reduceAnd, BitVec.reduceOr, BitVec.reduceXOr, BitVec.reduceNot, BitVec.reduceNeg, BitVec.reduceHShiftLeft, BitVec.reduceHShiftRight, Nat.reduceAdd, Nat.reduceMul, Nat.reduceSub, Nat.reduceBEq, Nat.reduceEqDiff, Nat.reduceLeDiff, Nat.reduceLT, Int.reduceLE, Int.reduceLT, Int.reduceAdd, Int.reduceSub, Int.reduceMul, Int.reduceNeg, Int.reduceToNat, Int.reduceEq, ↓reduceIte, reduceCtorEq, markU, h]
    · simp (config := { maxSteps := 10000000 }) only [go_sem, List.reduceReplicate, BitVec.reduceOfInt, BitVec.reduceToNat, BitVec.reduceToInt, BitVec.reduceEq, BitVec.reduceLT, BitVec.reduceLE, BitVec.reduceAdd, BitVec.reduceSub, BitVec.reduceMul, BitVec.reduceUDiv, BitVec.reduceUMod, BitVec.reduceAnd, BitVec.reduceOr, BitVec.reduceXOr, BitVec.reduceNot, BitVec.reduceNeg, BitVec.reduceHShiftLeft, BitVec.reduceHShiftRight, Nat.reduceAdd, Nat.reduceMul, Nat.reduceSub, Nat.reduceBEq, Nat.reduceEqDiff, Nat.reduceLeDiff, Nat.reduceLT, Int.reduceLE, Int.reduceLT, Int.reduceAdd, Int.reduceSub, Int.reduceMul, Int.reduceNeg, Int.reduceToNat, Int.reduceEq, ↓reduceIte, reduceCtorEq, markU, h]
  · simp at h
def s_rmarked (args : List AV) : Option AV :=
  match args with
  | [.c (.u p), .c (.i a)] => some (.c (.u (markU p a)))
  | _ => none
theorem s_rmarked_eq {p a} : s_rmarked [.c (.u p), .c (.i a)] = some (.c (.u (markU p a))) := rfl
set_option maxRecDepth 100000 in
set_option maxHeartbeats 2000000 in
theorem ok_rmarked : PuOk Try.prog 33 s_rmarked := by
  refine pu_ok (tab := [(59, .pu s_rput)]) hmix (TabOk.cons (e := .pu s_rput) ok_rput TabOk.nil) Try.func33 rfl Try.results33 Try.ntmps33 (by kernel_rfl) (by kernel_rfl) ?_
  intro args v h
  unfold s_rmarked at h
  split at h
  · rename_i p a
    simp only [Option.some.injEq] at h; subst h
    refine ⟨by simp only [List.length_cons, List.length_nil]; decide, rfl, rfl, ?_⟩
    have i1 : inR 6 := ⟨by omega, by omega⟩
    have i2 : inR 1 := ⟨by omega, by omega⟩
    have i3 : inR 7 := ⟨by omega, by omega⟩
    have e1 : putU p 6 1 1#64 = p ||| 64#64 := put6 p 6 (by omega)
    have e2 : putU (p ||| 64#64) 7 1 1#64 = p ||| 64#64 ||| 128#64 := put6 _ 7 (by omega)
    by_cases h : a = 2
    · simp (config := { maxSteps := 10000000 }) only [go_sem, List.reduceReplicate, BitVec.reduceOfInt, BitVec.reduceToNat, BitVec.reduceToInt, BitVec.reduceEq, BitVec.reduceLT, BitVec.reduceLE, BitVec.reduceAdd, BitVec.reduceSub, BitVec.reduceMul, BitVec.reduceUDiv, BitVec.reduceUMod, BitVec.reduceAnd, BitVec.reduceOr, BitVec.reduceXOr, BitVec.reduceNot, BitVec.reduceNeg, BitVec.reduceHShiftLeft, BitVec.reduceHShiftRight, Nat.reduceAdd, Nat.reduceMul, Nat.reduceSub, Nat.reduceBEq, Nat.reduceEqDiff, Nat.reduceLeDiff, Nat.reduceLT, Int.reduceLE, Int.reduceLT, Int.reduceAdd, Int.reduceSub, Int.reduceMul, Int.reduceNeg, Int.reduceToNat, Int.reduceEq, ↓reduceIte, reduceCtorEq, s_rput_eq, markU, h, i1, i2, i3, e1, e2]
    · simp (config := { maxSteps := 10000000 }) only [go_sem, List.reduceReplicate, BitVec.reduceOfInt, BitVec.reduceToNat, BitVec.reduceToInt, BitVec.reduceEq, BitVec.reduceLT, BitVec.reduceLE, BitVec.reduceAdd, BitVec.reduceSub, BitVec.reduceMul, BitVec.reduceUDiv, BitVec.reduceUMod, BitVec.reduceAnd, BitVec.reduceOr, BitVec.reduceXOr, BitVec.reduceNot, BitVec.reduceNeg, BitVec.reduceHShiftLeft, BitVec.reduceHShiftRight, Nat.reduceAdd, Nat.reduceMul, Nat.reduceSub, Nat.reduceBEq, Nat.reduceEqDiff, Nat.reduceLeDiff, Nat.reduceLT, Int.reduceLE, Int.reduceLT, Int.reduceAdd, Int.reduceSub, Int.reduceMul, Int.reduceNeg, Int.reduceToNat, Int.reduceEq, ↓reduceIte, reduceCtorEq, s_rput_eq, markU, h, i1, i2, e1]
  · simp at h
def frameU (p : BitVec 64) (l : Int) (v : BitVec 64) : BitVec 64 := if l < 0 then 0#64 else if 2 < l then 0#64 else putU (cutU p 10 44 <<< 12) 0 (12 + 9 * l) v
theorem mul4096 (w : BitVec 64) : w * 4096#64 = w <<< 12 := by
  apply BitVec.eq_of_toNat_eq
  rw [BitVec.toNat_mul, BitVec.toNat_shiftLeft, Nat.shiftLeft_eq]; rfl
theorem live_25 : kindU 1#64 1 = 1 ∧ kindU 1#64 0 = 0 ∧ kindU 7#64 2 = 2 ∧ frameU (makeU 512#64 7#64) 1 4660#64 = 2101812#64 := by
  refine ⟨?_, ?_, ?_, ?_⟩
  · simp only [kindU, lowU, cutU, ofG_eqn]; decide +kernel
  · simp only [kindU, lowU, cutU, ofG_eqn]; decide +kernel
  · simp only [kindU, lowU, cutU, ofG_eqn]; decide +kernel
  · simp only [frameU, makeU, putU, lowU, cutU, ofG_eqn]; decide +kernel
theorem make_eq (a b : BitVec 64) : makeU a b = lowU a 44 * 1024#64 + lowU b 10 := by
  have e1 : lowU a 44 * 1024#64 = lowU a 44 <<< 10 := by
    apply BitVec.eq_of_toNat_eq
    rw [BitVec.toNat_mul, BitVec.toNat_shiftLeft, Nat.shiftLeft_eq]; rfl
  rw [e1, BitVec.add_eq_or_of_and_eq_zero, makeU]
  apply BitVec.eq_of_getLsbD_eq
  intro i hi
  have c : (lowU b 10).getLsbD i = (decide ((i : Int) < 10) && b.getLsbD i) := ofG_get hi
  rw [BitVec.getLsbD_and, BitVec.getLsbD_shiftLeft, c]
  by_cases h : i < 10
  · simp [h]
  · have h' : ¬ (i : Int) < 10 := by omega
    rw [decide_eq_false h']; simp

end
end Go.Proofs.Ytanblagbkhpolaa
