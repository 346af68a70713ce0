/- Layer 3: the reference: rows that are found, fields, masks (printed by gj5.py): contracts. -/
import Derived.Test.YtcfnfdafcfpohaaJ4
namespace Go.Proofs.Ytcfnfdafcfpohaa
open Go.Am
set_option linter.unusedSimpArgs false
set_option linter.unusedVariables false
noncomputable section

def rowT (op : Int) : List Sc := if 1 ≤ op ∧ op ≤ 98 then rowOp op.toNat else [.i 0, .s (fn 0), .u 0#64, .u 0#64]
theorem rowT_pf (op : Int) : (rowT op).all Sc.pf = true := by unfold rowT rowOp; split <;> rfl
theorem row_l (i : Nat) : (rowOp (i + 1)).length = 4 := rfl
theorem row_at {k : Nat} (h : k < 98) : (List.range 98)[k]? = some k := by simp [h]
theorem rows_len : rowsC.length = 392 := by unfold rowsC; rw [fm_len row_l, List.length_range]
def findN (op : Int) : Nat := if 1 ≤ op ∧ op ≤ 98 then op.toNat - 1 else 98
set_option maxHeartbeats 4000000 in
def s_rfind (args : List AV) : Option AV :=
  match args with
  | [.c (.i op)] => some (.g (rowT op))
  | _ => none
theorem s_rfind_eq {op} : s_rfind [.c (.i op)] = some (.g (rowT op)) := rfl
set_option maxRecDepth 100000 in
set_option maxHeartbeats 2000000 in
theorem ok_rfind : PuOk Try.prog 20 s_rfind := by
  refine pu_ok (tab := [(26, .fp s_rrows)]) hmix (TabOk.cons (e := .fp s_rrows) ok_rrows TabOk.nil) Try.func20 rfl Try.results20 Try.ntmps20 (by kernel_rfl) (by kernel_rfl) ?_
  intro args v h
  unfold s_rfind at h
  split at h
  · rename_i op
    simp only [Option.some.injEq] at h; subst h
    have pz := rowT_pf op
    refine ⟨by simp only [List.length_cons, List.length_nil]; decide, by first | rfl | simp only [List.all_cons, List.all_nil, AV.pf, Sc.pf, Bool.and_true, *], by first | rfl | simp only [List.all_cons, List.all_nil, AV.pf, Sc.pf, Bool.and_true, *], ?_⟩
    (try simp (config := { maxSteps := 10000000 }) only [go_sem, List.reduceReplicate, BitVec.reduceOfInt, BitVec.reduceToNat, BitVec.reduceToInt, BitVec.reduceEq, BitVec.reduceLT, BitVec.reduceLE, BitVec.reduceAdd, BitVec.reduceSub, BitVec.reduceMul, BitVec.reduceUDiv, BitVec.reduceUMod, BitVec.reduceAnd, BitVec.reduceOr, BitVec.reduceXOr, BitVec.reduceNot, BitVec.reduceNeg, BitVec.reduceHShiftLeft, BitVec.reduceHShiftRight, Nat.reduceAdd, Nat.reduceMul, Nat.reduceSub, Nat.reduceBEq, Nat.reduceEqDiff, Nat.reduceLeDiff, Nat.reduceLT, Int.reduceLE, Int.reduceLT, Int.reduceAdd, Int.reduceSub, Int.reduceMul, Int.reduceNeg, Int.reduceToNat, Int.reduceEq, ↓reduceIte, reduceCtorEq, s_rrows_eq]; repeat (simp (disch := omega) only [w64_d, ipos, ineg, dpos, dneg]; try simp (config := { maxSteps := 10000000 }) only [go_sem, List.reduceReplicate, BitVec.reduceOfInt, BitVec.reduceToNat, BitVec.reduceToInt, BitVec.reduceEq, BitVec.reduceLT, BitVec.reduceLE, BitVec.reduceAdd, BitVec.reduceSub, BitVec.reduceMul, BitVec.reduceUDiv, BitVec.reduceUMod, BitVec.reduceAnd, BitVec.reduceOr, BitVec.reduceXOr, BitVec.reduceNot, BitVec.reduceNeg, BitVec.reduceHShiftLeft, BitVec.reduceHShiftRight, Nat.reduceAdd, Nat.reduceMul, Nat.reduceSub, Nat.reduceBEq, Nat.reduceEqDiff, Nat.reduceLeDiff, Nat.reduceLT, Int.reduceLE, Int.reduceLT, Int.reduceAdd, Int.reduceSub, Int.reduceMul, Int.reduceNeg, Int.reduceToNat, Int.reduceEq, ↓reduceIte, reduceCtorEq, s_rrows_eq]))
    refine arun_for (findN op) (fun k => ([(0, .c (.i op)), (2, .c (.p 0 0 0)), (3, .c (.sl 1 0 392 98)), (4, .c (.i k))], [.own [.i 0, .s (fn 0), .u 0#64, .u 0#64], .vec 4 rowsC])) (Wk.fr (by simp [Am.get])) fun k hk => ?_
    have hn : findN op ≤ 98 := by unfold findN; split <;> omega
    have e1 : w64 ((k : Int) + 1) = ((k + 1 : Nat) : Int) := by rw [w64_of (by omega)]; omega
    have k0 : (0 : Int) ≤ (k : Int) := by omega
    by_cases hlt : k < 98
    rotate_left
    · obtain rfl : k = 98 := by omega
      have rr : rowT op = [.i 0, .s ByteArray.empty, .u 0#64, .u 0#64] := by
        unfold rowT
        rw [if_neg (by unfold findN at hk; split at hk <;> omega)]
        rfl
      rw [rr]
      (try simp (config := { maxSteps := 10000000 }) only [go_sem, List.reduceReplicate, BitVec.reduceOfInt, BitVec.reduceToNat, BitVec.reduceToInt, BitVec.reduceEq, BitVec.reduceLT, BitVec.reduceLE, BitVec.reduceAdd, BitVec.reduceSub, BitVec.reduceMul, BitVec.reduceUDiv, BitVec.reduceUMod, BitVec.reduceAnd, BitVec.reduceOr, BitVec.reduceXOr, BitVec.reduceNot, BitVec.reduceNeg, BitVec.reduceHShiftLeft, BitVec.reduceHShiftRight, Nat.reduceAdd, Nat.reduceMul, Nat.reduceSub, Nat.reduceBEq, Nat.reduceEqDiff, Nat.reduceLeDiff, Nat.reduceLT, Int.reduceLE, Int.reduceLT, Int.reduceAdd, Int.reduceSub, Int.reduceMul, Int.reduceNeg, Int.reduceToNat, Int.reduceEq, ↓reduceIte, reduceCtorEq]; repeat (simp (disch := omega) only [w64_d, ipos, ineg, dpos, dneg]; try simp (config := { maxSteps := 10000000 }) only [go_sem, List.reduceReplicate, BitVec.reduceOfInt, BitVec.reduceToNat, BitVec.reduceToInt, BitVec.reduceEq, BitVec.reduceLT, BitVec.reduceLE, BitVec.reduceAdd, BitVec.reduceSub, BitVec.reduceMul, BitVec.reduceUDiv, BitVec.reduceUMod, BitVec.reduceAnd, BitVec.reduceOr, BitVec.reduceXOr, BitVec.reduceNot, BitVec.reduceNeg, BitVec.reduceHShiftLeft, BitVec.reduceHShiftRight, Nat.reduceAdd, Nat.reduceMul, Nat.reduceSub, Nat.reduceBEq, Nat.reduceEqDiff, Nat.reduceLeDiff, Nat.reduceLT, Int.reduceLE, Int.reduceLT, Int.reduceAdd, Int.reduceSub, Int.reduceMul, Int.reduceNeg, Int.reduceToNat, Int.reduceEq, ↓reduceIte, reduceCtorEq]))
    have hI : (k : Int) < 98 := by omega
    have g1 := fm_le row_l (L := List.range 98) (k := k) (by simpa using hlt)
    have g2 := fm_cell row_l (row_at hlt) (i := 0) (by decide)
    have g3 := fm_get row_l (row_at hlt)
    have ec : (List.range 98).flatMap (fun i => rowOp (i + 1)) = rowsC := rfl
    rw [ec] at g1 g2 g3
    rw [rows_len] at g1
    rw [Nat.add_zero] at g2
    have g2' : rowsC.getD (k * 4) .any = .i ((k + 1 : Nat) : Int) := g2
    have g4 : k * 4 + 1 ≤ 392 := by omega
    have g5 : k * 4 + 4 ≤ 392 := by omega
    by_cases he : ((k + 1 : Nat) : Int) = op
    · have rr : rowT op = rowOp (k + 1) := by unfold rowT; rw [if_pos (by omega)]; congr 1; omega
      have one : (rowOp (k + 1)).all Sc.one = true := rfl
      have l4 : (rowOp (k + 1)).length = 4 := rfl
      rw [rr]
      (try simp (config := { maxSteps := 10000000 }) only [go_sem, List.reduceReplicate, BitVec.reduceOfInt, BitVec.reduceToNat, BitVec.reduceToInt, BitVec.reduceEq, BitVec.reduceLT, BitVec.reduceLE, BitVec.reduceAdd, BitVec.reduceSub, BitVec.reduceMul, BitVec.reduceUDiv, BitVec.reduceUMod, BitVec.reduceAnd, BitVec.reduceOr, BitVec.reduceXOr, BitVec.reduceNot, BitVec.reduceNeg, BitVec.reduceHShiftLeft, BitVec.reduceHShiftRight, Nat.reduceAdd, Nat.reduceMul, Nat.reduceSub, Nat.reduceBEq, Nat.reduceEqDiff, Nat.reduceLeDiff, Nat.reduceLT, Int.reduceLE, Int.reduceLT, Int.reduceAdd, Int.reduceSub, Int.reduceMul, Int.reduceNeg, Int.reduceToNat, Int.reduceEq, ↓reduceIte, reduceCtorEq, e1, k0, hI, g2', g3, g4, g5, rows_len, he, one, l4]; repeat (simp (disch := omega) only [w64_d, ipos, ineg, dpos, dneg]; try simp (config := { maxSteps := 10000000 }) only [go_sem, List.reduceReplicate, BitVec.reduceOfInt, BitVec.reduceToNat, BitVec.reduceToInt, BitVec.reduceEq, BitVec.reduceLT, BitVec.reduceLE, BitVec.reduceAdd, BitVec.reduceSub, BitVec.reduceMul, BitVec.reduceUDiv, BitVec.reduceUMod, BitVec.reduceAnd, BitVec.reduceOr, BitVec.reduceXOr, BitVec.reduceNot, BitVec.reduceNeg, BitVec.reduceHShiftLeft, BitVec.reduceHShiftRight, Nat.reduceAdd, Nat.reduceMul, Nat.reduceSub, Nat.reduceBEq, Nat.reduceEqDiff, Nat.reduceLeDiff, Nat.reduceLT, Int.reduceLE, Int.reduceLT, Int.reduceAdd, Int.reduceSub, Int.reduceMul, Int.reduceNeg, Int.reduceToNat, Int.reduceEq, ↓reduceIte, reduceCtorEq, e1, k0, hI, g2', g3, g4, g5, rows_len, he, one, l4]))
      rfl
    · (try simp (config := { maxSteps := 10000000 }) only [go_sem, List.reduceReplicate, BitVec.reduceOfInt, BitVec.reduceToNat, BitVec.reduceToInt, BitVec.reduceEq, BitVec.reduceLT, BitVec.reduceLE, BitVec.reduceAdd, BitVec.reduceSub, BitVec.reduceMul, BitVec.reduceUDiv, BitVec.reduceUMod, BitVec.reduceAnd, BitVec.reduceOr, BitVec.reduceXOr, BitVec.reduceNot, BitVec.reduceNeg, BitVec.reduceHShiftLeft, BitVec.reduceHShiftRight, Nat.reduceAdd, Nat.reduceMul, Nat.reduceSub, Nat.reduceBEq, Nat.reduceEqDiff, Nat.reduceLeDiff, Nat.reduceLT, Int.reduceLE, Int.reduceLT, Int.reduceAdd, Int.reduceSub, Int.reduceMul, Int.reduceNeg, Int.reduceToNat, Int.reduceEq, ↓reduceIte, reduceCtorEq, e1, k0, hI, g2', g4, g5, rows_len, he]; repeat (simp (disch := omega) only [w64_d, ipos, ineg, dpos, dneg]; try simp (config := { maxSteps := 10000000 }) only [go_sem, List.reduceReplicate, BitVec.reduceOfInt, BitVec.reduceToNat, BitVec.reduceToInt, BitVec.reduceEq, BitVec.reduceLT, BitVec.reduceLE, BitVec.reduceAdd, BitVec.reduceSub, BitVec.reduceMul, BitVec.reduceUDiv, BitVec.reduceUMod, BitVec.reduceAnd, BitVec.reduceOr, BitVec.reduceXOr, BitVec.reduceNot, BitVec.reduceNeg, BitVec.reduceHShiftLeft, BitVec.reduceHShiftRight, Nat.reduceAdd, Nat.reduceMul, Nat.reduceSub, Nat.reduceBEq, Nat.reduceEqDiff, Nat.reduceLeDiff, Nat.reduceLT, Int.reduceLE, Int.reduceLT, Int.reduceAdd, Int.reduceSub, Int.reduceMul, Int.reduceNeg, Int.reduceToNat, Int.reduceEq, ↓reduceIte, reduceCtorEq, e1, k0, hI, g2', g4, g5, rows_len, he]))
      exact ⟨k + 1, by omega, by unfold findN at hk ⊢; split at hk <;> split <;> omega, Wk.fr (by simp [Am.get])⟩
  · simp at h
/-- the lowest bits -/
def mskN (x : BitVec 64) (k : Nat) : BitVec 64 := (x.setWidth k).setWidth 64
theorem msk_0 (x : BitVec 64) : mskN x 0 = 0#64 := by
  unfold mskN
  apply BitVec.eq_of_getLsbD_eq
  intro i hi
  simp
theorem msk_step (x : BitVec 64) (k : Nat) (hk : k < 64) : mskN x (k + 1) = if x.getLsbD k = true then mskN x k + (1#64 <<< k) else mskN x k := by
  have o1 : ∀ i, i < 64 → (1#64 <<< k).getLsbD i = decide (i = k) := fun i hi => by
    rw [BitVec.getLsbD_shiftLeft, BitVec.getLsbD_one]
    by_cases h : i = k
    · subst h; simp [hi]
    · have : ¬ (i - k = 0 ∧ ¬ i < k) := by omega
      simp [h, hi]; omega
  split
  · rename_i hb
    rw [BitVec.add_eq_or_of_and_eq_zero]
    · apply BitVec.eq_of_getLsbD_eq
      intro i hi
      rw [BitVec.getLsbD_or, o1 i hi]
      simp only [mskN, BitVec.getLsbD_setWidth]
      by_cases h : i = k
      · subst h; simp [hi, hb]
      · have e : decide (i < k + 1) = decide (i < k) := decide_eq_decide.2 (by omega)
        simp [h, e]
    · apply BitVec.eq_of_getLsbD_eq
      intro i hi
      rw [BitVec.getLsbD_and, o1 i hi]
      simp only [mskN, BitVec.getLsbD_setWidth]
      by_cases h : i = k
      · subst h; simp
      · simp [h]
  · rename_i hb
    apply BitVec.eq_of_getLsbD_eq
    intro i hi
    simp only [mskN, BitVec.getLsbD_setWidth]
    by_cases h : i = k
    · subst h; simp at hb; simp [hb]
    · have e : decide (i < k + 1) = decide (i < k) := decide_eq_decide.2 (by omega)
      rw [e]
theorem one_shl (k : Nat) : (1#64 <<< k) * 2#64 = 1#64 <<< (k + 1) := by
  rw [BitVec.shiftLeft_add, BitVec.shiftLeft_eq_mul_twoPow (1#64 <<< k) 1]; rfl
theorem one_ne : (0#64 = 1#64) = False := eq_false (by decide)
set_option maxHeartbeats 4000000 in
def s_rmasked (args : List AV) : Option AV :=
  match args with
  | [.c (.u w), .c (.u m)] => some (.c (.u (mskN (w &&& m) 32)))
  | _ => none
theorem s_rmasked_eq {w m} : s_rmasked [.c (.u w), .c (.u m)] = some (.c (.u (mskN (w &&& m) 32))) := rfl
set_option maxRecDepth 100000 in
set_option maxHeartbeats 2000000 in
theorem ok_rmasked : PuOk Try.prog 27 s_rmasked := by
  refine pu_ok (tab := []) hmix TabOk.nil Try.func27 rfl Try.results27 Try.ntmps27 (by kernel_rfl) (by kernel_rfl) ?_
  intro args v h
  unfold s_rmasked at h
  split at h
  · rename_i w m
    simp only [Option.some.injEq] at h; subst h
    refine ⟨by simp only [List.length_cons, List.length_nil]; decide, rfl, rfl, ?_⟩
    (try simp (config := { maxSteps := 10000000 }) only [go_sem, List.reduceReplicate, BitVec.reduceOfInt, BitVec.reduceToNat, BitVec.reduceToInt, BitVec.reduceEq, BitVec.reduceLT, BitVec.reduceLE, BitVec.reduceAdd, BitVec.reduceSub, BitVec.reduceMul, BitVec.reduceUDiv, BitVec.reduceUMod, BitVec.reduceAnd, BitVec.reduceOr, BitVec.reduceXOr, BitVec.reduceNot, BitVec.reduceNeg, BitVec.reduceHShiftLeft, BitVec.reduceHShiftRight, Nat.reduceAdd, Nat.reduceMul, Nat.reduceSub, Nat.reduceBEq, Nat.reduceEqDiff, Nat.reduceLeDiff, Nat.reduceLT, Int.reduceLE, Int.reduceLT, Int.reduceAdd, Int.reduceSub, Int.reduceMul, Int.reduceNeg, Int.reduceToNat, Int.reduceEq, ↓reduceIte, reduceCtorEq]; repeat (simp (disch := omega) only [w64_d, ipos, ineg, dpos, dneg]; try simp (config := { maxSteps := 10000000 }) only [go_sem, List.reduceReplicate, BitVec.reduceOfInt, BitVec.reduceToNat, BitVec.reduceToInt, BitVec.reduceEq, BitVec.reduceLT, BitVec.reduceLE, BitVec.reduceAdd, BitVec.reduceSub, BitVec.reduceMul, BitVec.reduceUDiv, BitVec.reduceUMod, BitVec.reduceAnd, BitVec.reduceOr, BitVec.reduceXOr, BitVec.reduceNot, BitVec.reduceNeg, BitVec.reduceHShiftLeft, BitVec.reduceHShiftRight, Nat.reduceAdd, Nat.reduceMul, Nat.reduceSub, Nat.reduceBEq, Nat.reduceEqDiff, Nat.reduceLeDiff, Nat.reduceLT, Int.reduceLE, Int.reduceLT, Int.reduceAdd, Int.reduceSub, Int.reduceMul, Int.reduceNeg, Int.reduceToNat, Int.reduceEq, ↓reduceIte, reduceCtorEq]))
    refine arun_for 32 (fun k => ([(0, .c (.u (w >>> k))), (1, .c (.u (m >>> k))), (4, .c (.u 0#64)), (5, .c (.u (mskN (w &&& m) k))), (6, .c (.u (1#64 <<< k))), (7, .c (.i k))], [])) (Wk.fr (by simp [Am.get, msk_0])) fun k hk => ?_
    by_cases hlt : k < 32
    rotate_left
    · obtain rfl : k = 32 := by omega
      (try simp (config := { maxSteps := 10000000 }) only [go_sem, List.reduceReplicate, BitVec.reduceOfInt, BitVec.reduceToNat, BitVec.reduceToInt, BitVec.reduceEq, BitVec.reduceLT, BitVec.reduceLE, BitVec.reduceAdd, BitVec.reduceSub, BitVec.reduceMul, BitVec.reduceUDiv, BitVec.reduceUMod, BitVec.reduceAnd, BitVec.reduceOr, BitVec.reduceXOr, BitVec.reduceNot, BitVec.reduceNeg, BitVec.reduceHShiftLeft, BitVec.reduceHShiftRight, Nat.reduceAdd, Nat.reduceMul, Nat.reduceSub, Nat.reduceBEq, Nat.reduceEqDiff, Nat.reduceLeDiff, Nat.reduceLT, Int.reduceLE, Int.reduceLT, Int.reduceAdd, Int.reduceSub, Int.reduceMul, Int.reduceNeg, Int.reduceToNat, Int.reduceEq, ↓reduceIte, reduceCtorEq]; repeat (simp (disch := omega) only [w64_d, ipos, ineg, dpos, dneg]; try simp (config := { maxSteps := 10000000 }) only [go_sem, List.reduceReplicate, BitVec.reduceOfInt, BitVec.reduceToNat, BitVec.reduceToInt, BitVec.reduceEq, BitVec.reduceLT, BitVec.reduceLE, BitVec.reduceAdd, BitVec.reduceSub, BitVec.reduceMul, BitVec.reduceUDiv, BitVec.reduceUMod, BitVec.reduceAnd, BitVec.reduceOr, BitVec.reduceXOr, BitVec.reduceNot, BitVec.reduceNeg, BitVec.reduceHShiftLeft, BitVec.reduceHShiftRight, Nat.reduceAdd, Nat.reduceMul, Nat.reduceSub, Nat.reduceBEq, Nat.reduceEqDiff, Nat.reduceLeDiff, Nat.reduceLT, Int.reduceLE, Int.reduceLT, Int.reduceAdd, Int.reduceSub, Int.reduceMul, Int.reduceNeg, Int.reduceToNat, Int.reduceEq, ↓reduceIte, reduceCtorEq]))
    have e1 : w64 ((k : Int) + 1) = ((k + 1 : Nat) : Int) := by rw [w64_of (by omega)]; omega
    have hI : (k : Int) < 32 := by omega
    have st := msk_step (w &&& m) k (by omega)
    rw [BitVec.getLsbD_and] at st
    have s1 := shr_mod w k
    have s2 := shr_mod m k
    have s3 := shr_succ w k
    have s4 := shr_succ m k
    have s5 := one_shl k
    cases hw : w.getLsbD k <;> cases hm : m.getLsbD k
    all_goals rw [hw] at s1 st
    all_goals rw [hm] at s2 st
    all_goals simp only [Bool.and_true, Bool.and_false, Bool.true_and, Bool.false_and, Bool.false_eq_true, if_false, if_true] at s1 s2 st
    all_goals (try simp (config := { maxSteps := 10000000 }) only [go_sem, List.reduceReplicate, BitVec.reduceOfInt, BitVec.reduceToNat, BitVec.reduceToInt, BitVec.reduceEq, BitVec.reduceLT, BitVec.reduceLE, BitVec.reduceAdd, BitVec.reduceSub, BitVec.reduceMul, BitVec.reduceUDiv, BitVec.reduceUMod, BitVec.reduceAnd, BitVec.reduceOr, BitVec.reduceXOr, BitVec.reduceNot, BitVec.reduceNeg, BitVec.reduceHShiftLeft, BitVec.reduceHShiftRight, Nat.reduceAdd, Nat.reduceMul, Nat.reduceSub, Nat.reduceBEq, Nat.reduceEqDiff, Nat.reduceLeDiff, Nat.reduceLT, Int.reduceLE, Int.reduceLT, Int.reduceAdd, Int.reduceSub, Int.reduceMul, Int.reduceNeg, Int.reduceToNat, Int.reduceEq, ↓reduceIte, reduceCtorEq, e1, hI, s1, s2, s3, s4, s5, one_ne]; repeat (simp (disch := omega) only [w64_d, ipos, ineg, dpos, dneg]; try simp (config := { maxSteps := 10000000 }) only [go_sem, List.reduceReplicate, BitVec.reduceOfInt, BitVec.reduceToNat, BitVec.reduceToInt, BitVec.reduceEq, BitVec.reduceLT, BitVec.reduceLE, BitVec.reduceAdd, BitVec.reduceSub, BitVec.reduceMul, BitVec.reduceUDiv, BitVec.reduceUMod, BitVec.reduceAnd, BitVec.reduceOr, BitVec.reduceXOr, BitVec.reduceNot, BitVec.reduceNeg, BitVec.reduceHShiftLeft, BitVec.reduceHShiftRight, Nat.reduceAdd, Nat.reduceMul, Nat.reduceSub, Nat.reduceBEq, Nat.reduceEqDiff, Nat.reduceLeDiff, Nat.reduceLT, Int.reduceLE, Int.reduceLT, Int.reduceAdd, Int.reduceSub, Int.reduceMul, Int.reduceNeg, Int.reduceToNat, Int.reduceEq, ↓reduceIte, reduceCtorEq, e1, hI, s1, s2, s3, s4, s5, one_ne]))
    all_goals exact ⟨k + 1, by omega, by omega, Wk.fr (by simp [Am.get, st])⟩
  · simp at h

def hasS (f : Nat) : List UInt8 :=
  if f = 1 then [100, 49, 50] else if f = 2 then [100, 49, 105] else if f = 7 then [100, 49, 105] else if f = 8 then [100, 49, 105] else if f = 3 then [49, 50, 105] else if f = 4 then [49, 50, 105] else if f = 5 then [100, 105] else if f = 6 then [100, 105] else if f = 9 then [100, 49, 99] else if f = 10 then [100, 49, 99] else if f = 11 then [100, 49, 50, 113] else if f = 12 then [100, 49, 113] else if f = 14 then [49, 50] else []
def hasT (f : Nat) (c : Int) : Bool := (hasS f).any fun b => decide ((b.toNat : Int) = c)
theorem hasS_len : ∀ f : Nat, f < 15 → (hasS f).length ≤ 4 := by decide
theorem any_hit {a : List UInt8} {c : Int} {k : Nat} (hk : k < a.length) (h : ((a.getD k 0).toNat : Int) = c) : (a.any fun b => decide ((b.toNat : Int) = c)) = true := by
  rw [List.any_eq_true]
  refine ⟨a[k], List.getElem_mem hk, ?_⟩
  rw [List.getD_eq_getElem?_getD, List.getElem?_eq_getElem hk] at h
  simpa using h
theorem any_no {a : List UInt8} {c : Int} (h : ∀ j, j < a.length → ((a.getD j 0).toNat : Int) ≠ c) : (a.any fun b => decide ((b.toNat : Int) = c)) = false := by
  rw [List.any_eq_false]
  intro b hb
  obtain ⟨j, hj, rfl⟩ := List.mem_iff_getElem.1 hb
  have := h j hj
  rw [List.getD_eq_getElem?_getD, List.getElem?_eq_getElem hj] at this
  simpa using this
set_option maxHeartbeats 16000000 in
def s_rhas (args : List AV) : Option AV :=
  match args with
  | [.c (.s s), .c (.k .u8 c)] => if nmF s < 15 then some (.c (.b (hasT (nmF s) c))) else none
  | _ => none
theorem s_rhas_eq {s c} : s_rhas [.c (.s s), .c (.k .u8 c)] = if nmF s < 15 then some (.c (.b (hasT (nmF s) c))) else none := rfl
set_option maxRecDepth 100000 in
set_option maxHeartbeats 2000000 in
theorem ok_rhas : PuOk Try.prog 28 s_rhas := by
  refine pu_ok (tab := []) hmix TabOk.nil Try.func28 rfl Try.results28 Try.ntmps28 (by kernel_rfl) (by kernel_rfl) ?_
  intro args v h
  unfold s_rhas at h
  split at h
  · rename_i s c
    split at h
    · rename_i hc
      simp only [Option.some.injEq] at h; subst h
      refine ⟨by simp only [List.length_cons, List.length_nil]; decide, rfl, rfl, ?_⟩
      obtain ⟨f, hs⟩ : ∃ f, f = nmF s := ⟨_, rfl⟩
      have hsf := nmF_inv hc
      rw [← hs] at hc hsf ⊢
      subst hsf
      clear hs
      have cases : f = 0 ∨ f = 1 ∨ f = 2 ∨ f = 3 ∨ f = 4 ∨ f = 5 ∨ f = 6 ∨ f = 7 ∨ f = 8 ∨ f = 9 ∨ f = 10 ∨ f = 11 ∨ f = 12 ∨ f = 13 ∨ f = 14 := by omega
      rcases cases with rfl | rfl | rfl | rfl | rfl | rfl | rfl | rfl | rfl | rfl | rfl | rfl | rfl | rfl | rfl
      have hl := hasS_len 0 (by decide)
      have e1 : (fn 0 = (⟨#[82]⟩ : ByteArray)) = False := eq_false (by decide)
      have e2 : (fn 0 = (⟨#[73]⟩ : ByteArray)) = False := eq_false (by decide)
      have e3 : (fn 0 = (⟨#[83]⟩ : ByteArray)) = False := eq_false (by decide)
      have e4 : (fn 0 = (⟨#[66]⟩ : ByteArray)) = False := eq_false (by decide)
      have e5 : (fn 0 = (⟨#[85]⟩ : ByteArray)) = False := eq_false (by decide)
      have e6 : (fn 0 = (⟨#[74]⟩ : ByteArray)) = False := eq_false (by decide)
      have e7 : (fn 0 = (⟨#[83, 104, 105, 102, 116]⟩ : ByteArray)) = False := eq_false (by decide)
      have e8 : (fn 0 = (⟨#[83, 104, 105, 102, 116, 87]⟩ : ByteArray)) = False := eq_false (by decide)
      have e9 : (fn 0 = (⟨#[67, 115, 114]⟩ : ByteArray)) = False := eq_false (by decide)
      have e10 : (fn 0 = (⟨#[67, 115, 114, 73]⟩ : ByteArray)) = False := eq_false (by decide)
      have e11 : (fn 0 = (⟨#[65]⟩ : ByteArray)) = False := eq_false (by decide)
      have e12 : (fn 0 = (⟨#[76, 114]⟩ : ByteArray)) = False := eq_false (by decide)
      have e14 : (fn 0 = (⟨#[83, 102, 101, 110, 99, 101]⟩ : ByteArray)) = False := eq_false (by decide)
      (try simp only [go_sem, List.reduceReplicate, Nat.reduceAdd, Nat.reduceMul, Nat.reduceSub, Nat.reduceBEq, Nat.reduceEqDiff, Nat.reduceLeDiff, Nat.reduceLT, Int.reduceLE, Int.reduceLT, Int.reduceAdd, Int.reduceSub, Int.reduceNeg, Int.reduceToNat, Int.reduceEq, ↓reduceIte, reduceCtorEq, e1, e2, e3, e4, e5, e6, e7, e8, e9, e10, e11, e12, e14]; repeat (simp (disch := omega) only [w64_d, ipos, ineg, dpos, dneg]; try simp only [go_sem, List.reduceReplicate, Nat.reduceAdd, Nat.reduceMul, Nat.reduceSub, Nat.reduceBEq, Nat.reduceEqDiff, Nat.reduceLeDiff, Nat.reduceLT, Int.reduceLE, Int.reduceLT, Int.reduceAdd, Int.reduceSub, Int.reduceNeg, Int.reduceToNat, Int.reduceEq, ↓reduceIte, reduceCtorEq, e1, e2, e3, e4, e5, e6, e7, e8, e9, e10, e11, e12, e14]))
      have ea : (⟨#[]⟩ : ByteArray) = ⟨(hasS 0).toArray⟩ := rfl
      have eh : hasT 0 c = (hasS 0).any fun b => decide ((b.toNat : Int) = c) := rfl
      rw [ea, eh]
      generalize hasS 0 = a at *
      clear e1 e2 e3 e4 e5 e6 e7 e8 e9 e10 e11 e12 e14
      rotate_left
      have hl := hasS_len 1 (by decide)
      have e1 : (fn 1 = (⟨#[82]⟩ : ByteArray)) = True := eq_true (by decide)
      have e2 : (fn 1 = (⟨#[73]⟩ : ByteArray)) = False := eq_false (by decide)
      have e3 : (fn 1 = (⟨#[83]⟩ : ByteArray)) = False := eq_false (by decide)
      have e4 : (fn 1 = (⟨#[66]⟩ : ByteArray)) = False := eq_false (by decide)
      have e5 : (fn 1 = (⟨#[85]⟩ : ByteArray)) = False := eq_false (by decide)
      have e6 : (fn 1 = (⟨#[74]⟩ : ByteArray)) = False := eq_false (by decide)
      have e7 : (fn 1 = (⟨#[83, 104, 105, 102, 116]⟩ : ByteArray)) = False := eq_false (by decide)
      have e8 : (fn 1 = (⟨#[83, 104, 105, 102, 116, 87]⟩ : ByteArray)) = False := eq_false (by decide)
      have e9 : (fn 1 = (⟨#[67, 115, 114]⟩ : ByteArray)) = False := eq_false (by decide)
      have e10 : (fn 1 = (⟨#[67, 115, 114, 73]⟩ : ByteArray)) = False := eq_false (by decide)
      have e11 : (fn 1 = (⟨#[65]⟩ : ByteArray)) = False := eq_false (by decide)
      have e12 : (fn 1 = (⟨#[76, 114]⟩ : ByteArray)) = False := eq_false (by decide)
      have e14 : (fn 1 = (⟨#[83, 102, 101, 110, 99, 101]⟩ : ByteArray)) = False := eq_false (by decide)
      (try simp only [go_sem, List.reduceReplicate, Nat.reduceAdd, Nat.reduceMul, Nat.reduceSub, Nat.reduceBEq, Nat.reduceEqDiff, Nat.reduceLeDiff, Nat.reduceLT, Int.reduceLE, Int.reduceLT, Int.reduceAdd, Int.reduceSub, Int.reduceNeg, Int.reduceToNat, Int.reduceEq, ↓reduceIte, reduceCtorEq, e1, e2, e3, e4, e5, e6, e7, e8, e9, e10, e11, e12, e14]; repeat (simp (disch := omega) only [w64_d, ipos, ineg, dpos, dneg]; try simp only [go_sem, List.reduceReplicate, Nat.reduceAdd, Nat.reduceMul, Nat.reduceSub, Nat.reduceBEq, Nat.reduceEqDiff, Nat.reduceLeDiff, Nat.reduceLT, Int.reduceLE, Int.reduceLT, Int.reduceAdd, Int.reduceSub, Int.reduceNeg, Int.reduceToNat, Int.reduceEq, ↓reduceIte, reduceCtorEq, e1, e2, e3, e4, e5, e6, e7, e8, e9, e10, e11, e12, e14]))
      have ea : (⟨#[100, 49, 50]⟩ : ByteArray) = ⟨(hasS 1).toArray⟩ := rfl
      have eh : hasT 1 c = (hasS 1).any fun b => decide ((b.toNat : Int) = c) := rfl
      rw [ea, eh]
      generalize hasS 1 = a at *
      clear e1 e2 e3 e4 e5 e6 e7 e8 e9 e10 e11 e12 e14
      rotate_left
      have hl := hasS_len 2 (by decide)
      have e1 : (fn 2 = (⟨#[82]⟩ : ByteArray)) = False := eq_false (by decide)
      have e2 : (fn 2 = (⟨#[73]⟩ : ByteArray)) = True := eq_true (by decide)
      have e3 : (fn 2 = (⟨#[83]⟩ : ByteArray)) = False := eq_false (by decide)
      have e4 : (fn 2 = (⟨#[66]⟩ : ByteArray)) = False := eq_false (by decide)
      have e5 : (fn 2 = (⟨#[85]⟩ : ByteArray)) = False := eq_false (by decide)
      have e6 : (fn 2 = (⟨#[74]⟩ : ByteArray)) = False := eq_false (by decide)
      have e7 : (fn 2 = (⟨#[83, 104, 105, 102, 116]⟩ : ByteArray)) = False := eq_false (by decide)
      have e8 : (fn 2 = (⟨#[83, 104, 105, 102, 116, 87]⟩ : ByteArray)) = False := eq_false (by decide)
      have e9 : (fn 2 = (⟨#[67, 115, 114]⟩ : ByteArray)) = False := eq_false (by decide)
      have e10 : (fn 2 = (⟨#[67, 115, 114, 73]⟩ : ByteArray)) = False := eq_false (by decide)
      have e11 : (fn 2 = (⟨#[65]⟩ : ByteArray)) = False := eq_false (by decide)
      have e12 : (fn 2 = (⟨#[76, 114]⟩ : ByteArray)) = False := eq_false (by decide)
      have e14 : (fn 2 = (⟨#[83, 102, 101, 110, 99, 101]⟩ : ByteArray)) = False := eq_false (by decide)
      (try simp only [go_sem, List.reduceReplicate, Nat.reduceAdd, Nat.reduceMul, Nat.reduceSub, Nat.reduceBEq, Nat.reduceEqDiff, Nat.reduceLeDiff, Nat.reduceLT, Int.reduceLE, Int.reduceLT, Int.reduceAdd, Int.reduceSub, Int.reduceNeg, Int.reduceToNat, Int.reduceEq, ↓reduceIte, reduceCtorEq, e1, e2, e3, e4, e5, e6, e7, e8, e9, e10, e11, e12, e14]; repeat (simp (disch := omega) only [w64_d, ipos, ineg, dpos, dneg]; try simp only [go_sem, List.reduceReplicate, Nat.reduceAdd, Nat.reduceMul, Nat.reduceSub, Nat.reduceBEq, Nat.reduceEqDiff, Nat.reduceLeDiff, Nat.reduceLT, Int.reduceLE, Int.reduceLT, Int.reduceAdd, Int.reduceSub, Int.reduceNeg, Int.reduceToNat, Int.reduceEq, ↓reduceIte, reduceCtorEq, e1, e2, e3, e4, e5, e6, e7, e8, e9, e10, e11, e12, e14]))
      have ea : (⟨#[100, 49, 105]⟩ : ByteArray) = ⟨(hasS 2).toArray⟩ := rfl
      have eh : hasT 2 c = (hasS 2).any fun b => decide ((b.toNat : Int) = c) := rfl
      rw [ea, eh]
      generalize hasS 2 = a at *
      clear e1 e2 e3 e4 e5 e6 e7 e8 e9 e10 e11 e12 e14
      rotate_left
      have hl := hasS_len 3 (by decide)
      have e1 : (fn 3 = (⟨#[82]⟩ : ByteArray)) = False := eq_false (by decide)
      have e2 : (fn 3 = (⟨#[73]⟩ : ByteArray)) = False := eq_false (by decide)
      have e3 : (fn 3 = (⟨#[83]⟩ : ByteArray)) = True := eq_true (by decide)
      have e4 : (fn 3 = (⟨#[66]⟩ : ByteArray)) = False := eq_false (by decide)
      have e5 : (fn 3 = (⟨#[85]⟩ : ByteArray)) = False := eq_false (by decide)
      have e6 : (fn 3 = (⟨#[74]⟩ : ByteArray)) = False := eq_false (by decide)
      have e7 : (fn 3 = (⟨#[83, 104, 105, 102, 116]⟩ : ByteArray)) = False := eq_false (by decide)
      have e8 : (fn 3 = (⟨#[83, 104, 105, 102, 116, 87]⟩ : ByteArray)) = False := eq_false (by decide)
      have e9 : (fn 3 = (⟨#[67, 115, 114]⟩ : ByteArray)) = False := eq_false (by decide)
      have e10 : (fn 3 = (⟨#[67, 115, 114, 73]⟩ : ByteArray)) = False := eq_false (by decide)
      have e11 : (fn 3 = (⟨#[65]⟩ : ByteArray)) = False := eq_false (by decide)
      have e12 : (fn 3 = (⟨#[76, 114]⟩ : ByteArray)) = False := eq_false (by decide)
      have e14 : (fn 3 = (⟨#[83, 102, 101, 110, 99, 101]⟩ : ByteArray)) = False := eq_false (by decide)
      (try simp only [go_sem, List.reduceReplicate, Nat.reduceAdd, Nat.reduceMul, Nat.reduceSub, Nat.reduceBEq, Nat.reduceEqDiff, Nat.reduceLeDiff, Nat.reduceLT, Int.reduceLE, Int.reduceLT, Int.reduceAdd, Int.reduceSub, Int.reduceNeg, Int.reduceToNat, Int.reduceEq, ↓reduceIte, reduceCtorEq, e1, e2, e3, e4, e5, e6, e7, e8, e9, e10, e11, e12, e14]; repeat (simp (disch := omega) only [w64_d, ipos, ineg, dpos, dneg]; try simp only [go_sem, List.reduceReplicate, Nat.reduceAdd, Nat.reduceMul, Nat.reduceSub, Nat.reduceBEq, Nat.reduceEqDiff, Nat.reduceLeDiff, Nat.reduceLT, Int.reduceLE, Int.reduceLT, Int.reduceAdd, Int.reduceSub, Int.reduceNeg, Int.reduceToNat, Int.reduceEq, ↓reduceIte, reduceCtorEq, e1, e2, e3, e4, e5, e6, e7, e8, e9, e10, e11, e12, e14]))
      have ea : (⟨#[49, 50, 105]⟩ : ByteArray) = ⟨(hasS 3).toArray⟩ := rfl
      have eh : hasT 3 c = (hasS 3).any fun b => decide ((b.toNat : Int) = c) := rfl
      rw [ea, eh]
      generalize hasS 3 = a at *
      clear e1 e2 e3 e4 e5 e6 e7 e8 e9 e10 e11 e12 e14
      rotate_left
      have hl := hasS_len 4 (by decide)
      have e1 : (fn 4 = (⟨#[82]⟩ : ByteArray)) = False := eq_false (by decide)
      have e2 : (fn 4 = (⟨#[73]⟩ : ByteArray)) = False := eq_false (by decide)
      have e3 : (fn 4 = (⟨#[83]⟩ : ByteArray)) = False := eq_false (by decide)
      have e4 : (fn 4 = (⟨#[66]⟩ : ByteArray)) = True := eq_true (by decide)
      have e5 : (fn 4 = (⟨#[85]⟩ : ByteArray)) = False := eq_false (by decide)
      have e6 : (fn 4 = (⟨#[74]⟩ : ByteArray)) = False := eq_false (by decide)
      have e7 : (fn 4 = (⟨#[83, 104, 105, 102, 116]⟩ : ByteArray)) = False := eq_false (by decide)
      have e8 : (fn 4 = (⟨#[83, 104, 105, 102, 116, 87]⟩ : ByteArray)) = False := eq_false (by decide)
      have e9 : (fn 4 = (⟨#[67, 115, 114]⟩ : ByteArray)) = False := eq_false (by decide)
      have e10 : (fn 4 = (⟨#[67, 115, 114, 73]⟩ : ByteArray)) = False := eq_false (by decide)
      have e11 : (fn 4 = (⟨#[65]⟩ : ByteArray)) = False := eq_false (by decide)
      have e12 : (fn 4 = (⟨#[76, 114]⟩ : ByteArray)) = False := eq_false (by decide)
      have e14 : (fn 4 = (⟨#[83, 102, 101, 110, 99, 101]⟩ : ByteArray)) = False := eq_false (by decide)
      (try simp only [go_sem, List.reduceReplicate, Nat.reduceAdd, Nat.reduceMul, Nat.reduceSub, Nat.reduceBEq, Nat.reduceEqDiff, Nat.reduceLeDiff, Nat.reduceLT, Int.reduceLE, Int.reduceLT, Int.reduceAdd, Int.reduceSub, Int.reduceNeg, Int.reduceToNat, Int.reduceEq, ↓reduceIte, reduceCtorEq, e1, e2, e3, e4, e5, e6, e7, e8, e9, e10, e11, e12, e14]; repeat (simp (disch := omega) only [w64_d, ipos, ineg, dpos, dneg]; try simp only [go_sem, List.reduceReplicate, Nat.reduceAdd, Nat.reduceMul, Nat.reduceSub, Nat.reduceBEq, Nat.reduceEqDiff, Nat.reduceLeDiff, Nat.reduceLT, Int.reduceLE, Int.reduceLT, Int.reduceAdd, Int.reduceSub, Int.reduceNeg, Int.reduceToNat, Int.reduceEq, ↓reduceIte, reduceCtorEq, e1, e2, e3, e4, e5, e6, e7, e8, e9, e10, e11, e12, e14]))
      have ea : (⟨#[49, 50, 105]⟩ : ByteArray) = ⟨(hasS 4).toArray⟩ := rfl
      have eh : hasT 4 c = (hasS 4).any fun b => decide ((b.toNat : Int) = c) := rfl
      rw [ea, eh]
      generalize hasS 4 = a at *
      clear e1 e2 e3 e4 e5 e6 e7 e8 e9 e10 e11 e12 e14
      rotate_left
      have hl := hasS_len 5 (by decide)
      have e1 : (fn 5 = (⟨#[82]⟩ : ByteArray)) = False := eq_false (by decide)
      have e2 : (fn 5 = (⟨#[73]⟩ : ByteArray)) = False := eq_false (by decide)
      have e3 : (fn 5 = (⟨#[83]⟩ : ByteArray)) = False := eq_false (by decide)
      have e4 : (fn 5 = (⟨#[66]⟩ : ByteArray)) = False := eq_false (by decide)
      have e5 : (fn 5 = (⟨#[85]⟩ : ByteArray)) = True := eq_true (by decide)
      have e6 : (fn 5 = (⟨#[74]⟩ : ByteArray)) = False := eq_false (by decide)
      have e7 : (fn 5 = (⟨#[83, 104, 105, 102, 116]⟩ : ByteArray)) = False := eq_false (by decide)
      have e8 : (fn 5 = (⟨#[83, 104, 105, 102, 116, 87]⟩ : ByteArray)) = False := eq_false (by decide)
      have e9 : (fn 5 = (⟨#[67, 115, 114]⟩ : ByteArray)) = False := eq_false (by decide)
      have e10 : (fn 5 = (⟨#[67, 115, 114, 73]⟩ : ByteArray)) = False := eq_false (by decide)
      have e11 : (fn 5 = (⟨#[65]⟩ : ByteArray)) = False := eq_false (by decide)
      have e12 : (fn 5 = (⟨#[76, 114]⟩ : ByteArray)) = False := eq_false (by decide)
      have e14 : (fn 5 = (⟨#[83, 102, 101, 110, 99, 101]⟩ : ByteArray)) = False := eq_false (by decide)
      (try simp only [go_sem, List.reduceReplicate, Nat.reduceAdd, Nat.reduceMul, Nat.reduceSub, Nat.reduceBEq, Nat.reduceEqDiff, Nat.reduceLeDiff, Nat.reduceLT, Int.reduceLE, Int.reduceLT, Int.reduceAdd, Int.reduceSub, Int.reduceNeg, Int.reduceToNat, Int.reduceEq, ↓reduceIte, reduceCtorEq, e1, e2, e3, e4, e5, e6, e7, e8, e9, e10, e11, e12, e14]; repeat (simp (disch := omega) only [w64_d, ipos, ineg, dpos, dneg]; try simp only [go_sem, List.reduceReplicate, Nat.reduceAdd, Nat.reduceMul, Nat.reduceSub, Nat.reduceBEq, Nat.reduceEqDiff, Nat.reduceLeDiff, Nat.reduceLT, Int.reduceLE, Int.reduceLT, Int.reduceAdd, Int.reduceSub, Int.reduceNeg, Int.reduceToNat, Int.reduceEq, ↓reduceIte, reduceCtorEq, e1, e2, e3, e4, e5, e6, e7, e8, e9, e10, e11, e12, e14]))
      have ea : (⟨#[100, 105]⟩ : ByteArray) = ⟨(hasS 5).toArray⟩ := rfl
      have eh : hasT 5 c = (hasS 5).any fun b => decide ((b.toNat : Int) = c) := rfl
      rw [ea, eh]
      generalize hasS 5 = a at *
      clear e1 e2 e3 e4 e5 e6 e7 e8 e9 e10 e11 e12 e14
      rotate_left
      have hl := hasS_len 6 (by decide)
      have e1 : (fn 6 = (⟨#[82]⟩ : ByteArray)) = False := eq_false (by decide)
      have e2 : (fn 6 = (⟨#[73]⟩ : ByteArray)) = False := eq_false (by decide)
      have e3 : (fn 6 = (⟨#[83]⟩ : ByteArray)) = False := eq_false (by decide)
      have e4 : (fn 6 = (⟨#[66]⟩ : ByteArray)) = False := eq_false (by decide)
      have e5 : (fn 6 = (⟨#[85]⟩ : ByteArray)) = False := eq_false (by decide)
      have e6 : (fn 6 = (⟨#[74]⟩ : ByteArray)) = True := eq_true (by decide)
      have e7 : (fn 6 = (⟨#[83, 104, 105, 102, 116]⟩ : ByteArray)) = False := eq_false (by decide)
      have e8 : (fn 6 = (⟨#[83, 104, 105, 102, 116, 87]⟩ : ByteArray)) = False := eq_false (by decide)
      have e9 : (fn 6 = (⟨#[67, 115, 114]⟩ : ByteArray)) = False := eq_false (by decide)
      have e10 : (fn 6 = (⟨#[67, 115, 114, 73]⟩ : ByteArray)) = False := eq_false (by decide)
      have e11 : (fn 6 = (⟨#[65]⟩ : ByteArray)) = False := eq_false (by decide)
      have e12 : (fn 6 = (⟨#[76, 114]⟩ : ByteArray)) = False := eq_false (by decide)
      have e14 : (fn 6 = (⟨#[83, 102, 101, 110, 99, 101]⟩ : ByteArray)) = False := eq_false (by decide)
      (try simp only [go_sem, List.reduceReplicate, Nat.reduceAdd, Nat.reduceMul, Nat.reduceSub, Nat.reduceBEq, Nat.reduceEqDiff, Nat.reduceLeDiff, Nat.reduceLT, Int.reduceLE, Int.reduceLT, Int.reduceAdd, Int.reduceSub, Int.reduceNeg, Int.reduceToNat, Int.reduceEq, ↓reduceIte, reduceCtorEq, e1, e2, e3, e4, e5, e6, e7, e8, e9, e10, e11, e12, e14]; repeat (simp (disch := omega) only [w64_d, ipos, ineg, dpos, dneg]; try simp only [go_sem, List.reduceReplicate, Nat.reduceAdd, Nat.reduceMul, Nat.reduceSub, Nat.reduceBEq, Nat.reduceEqDiff, Nat.reduceLeDiff, Nat.reduceLT, Int.reduceLE, Int.reduceLT, Int.reduceAdd, Int.reduceSub, Int.reduceNeg, Int.reduceToNat, Int.reduceEq, ↓reduceIte, reduceCtorEq, e1, e2, e3, e4, e5, e6, e7, e8, e9, e10, e11, e12, e14]))
      have ea : (⟨#[100, 105]⟩ : ByteArray) = ⟨(hasS 6).toArray⟩ := rfl
      have eh : hasT 6 c = (hasS 6).any fun b => decide ((b.toNat : Int) = c) := rfl
      rw [ea, eh]
      generalize hasS 6 = a at *
      clear e1 e2 e3 e4 e5 e6 e7 e8 e9 e10 e11 e12 e14
      rotate_left
      have hl := hasS_len 7 (by decide)
      have e1 : (fn 7 = (⟨#[82]⟩ : ByteArray)) = False := eq_false (by decide)
      have e2 : (fn 7 = (⟨#[73]⟩ : ByteArray)) = False := eq_false (by decide)
      have e3 : (fn 7 = (⟨#[83]⟩ : ByteArray)) = False := eq_false (by decide)
      have e4 : (fn 7 = (⟨#[66]⟩ : ByteArray)) = False := eq_false (by decide)
      have e5 : (fn 7 = (⟨#[85]⟩ : ByteArray)) = False := eq_false (by decide)
      have e6 : (fn 7 = (⟨#[74]⟩ : ByteArray)) = False := eq_false (by decide)
      have e7 : (fn 7 = (⟨#[83, 104, 105, 102, 116]⟩ : ByteArray)) = True := eq_true (by decide)
      have e8 : (fn 7 = (⟨#[83, 104, 105, 102, 116, 87]⟩ : ByteArray)) = False := eq_false (by decide)
      have e9 : (fn 7 = (⟨#[67, 115, 114]⟩ : ByteArray)) = False := eq_false (by decide)
      have e10 : (fn 7 = (⟨#[67, 115, 114, 73]⟩ : ByteArray)) = False := eq_false (by decide)
      have e11 : (fn 7 = (⟨#[65]⟩ : ByteArray)) = False := eq_false (by decide)
      have e12 : (fn 7 = (⟨#[76, 114]⟩ : ByteArray)) = False := eq_false (by decide)
      have e14 : (fn 7 = (⟨#[83, 102, 101, 110, 99, 101]⟩ : ByteArray)) = False := eq_false (by decide)
      (try simp only [go_sem, List.reduceReplicate, Nat.reduceAdd, Nat.reduceMul, Nat.reduceSub, Nat.reduceBEq, Nat.reduceEqDiff, Nat.reduceLeDiff, Nat.reduceLT, Int.reduceLE, Int.reduceLT, Int.reduceAdd, Int.reduceSub, Int.reduceNeg, Int.reduceToNat, Int.reduceEq, ↓reduceIte, reduceCtorEq, e1, e2, e3, e4, e5, e6, e7, e8, e9, e10, e11, e12, e14]; repeat (simp (disch := omega) only [w64_d, ipos, ineg, dpos, dneg]; try simp only [go_sem, List.reduceReplicate, Nat.reduceAdd, Nat.reduceMul, Nat.reduceSub, Nat.reduceBEq, Nat.reduceEqDiff, Nat.reduceLeDiff, Nat.reduceLT, Int.reduceLE, Int.reduceLT, Int.reduceAdd, Int.reduceSub, Int.reduceNeg, Int.reduceToNat, Int.reduceEq, ↓reduceIte, reduceCtorEq, e1, e2, e3, e4, e5, e6, e7, e8, e9, e10, e11, e12, e14]))
      have ea : (⟨#[100, 49, 105]⟩ : ByteArray) = ⟨(hasS 7).toArray⟩ := rfl
      have eh : hasT 7 c = (hasS 7).any fun b => decide ((b.toNat : Int) = c) := rfl
      rw [ea, eh]
      generalize hasS 7 = a at *
      clear e1 e2 e3 e4 e5 e6 e7 e8 e9 e10 e11 e12 e14
      rotate_left
      have hl := hasS_len 8 (by decide)
      have e1 : (fn 8 = (⟨#[82]⟩ : ByteArray)) = False := eq_false (by decide)
      have e2 : (fn 8 = (⟨#[73]⟩ : ByteArray)) = False := eq_false (by decide)
      have e3 : (fn 8 = (⟨#[83]⟩ : ByteArray)) = False := eq_false (by decide)
      have e4 : (fn 8 = (⟨#[66]⟩ : ByteArray)) = False := eq_false (by decide)
      have e5 : (fn 8 = (⟨#[85]⟩ : ByteArray)) = False := eq_false (by decide)
      have e6 : (fn 8 = (⟨#[74]⟩ : ByteArray)) = False := eq_false (by decide)
      have e7 : (fn 8 = (⟨#[83, 104, 105, 102, 116]⟩ : ByteArray)) = False := eq_false (by decide)
      have e8 : (fn 8 = (⟨#[83, 104, 105, 102, 116, 87]⟩ : ByteArray)) = True := eq_true (by decide)
      have e9 : (fn 8 = (⟨#[67, 115, 114]⟩ : ByteArray)) = False := eq_false (by decide)
      have e10 : (fn 8 = (⟨#[67, 115, 114, 73]⟩ : ByteArray)) = False := eq_false (by decide)
      have e11 : (fn 8 = (⟨#[65]⟩ : ByteArray)) = False := eq_false (by decide)
      have e12 : (fn 8 = (⟨#[76, 114]⟩ : ByteArray)) = False := eq_false (by decide)
      have e14 : (fn 8 = (⟨#[83, 102, 101, 110, 99, 101]⟩ : ByteArray)) = False := eq_false (by decide)
      (try simp only [go_sem, List.reduceReplicate, Nat.reduceAdd, Nat.reduceMul, Nat.reduceSub, Nat.reduceBEq, Nat.reduceEqDiff, Nat.reduceLeDiff, Nat.reduceLT, Int.reduceLE, Int.reduceLT, Int.reduceAdd, Int.reduceSub, Int.reduceNeg, Int.reduceToNat, Int.reduceEq, ↓reduceIte, reduceCtorEq, e1, e2, e3, e4, e5, e6, e7, e8, e9, e10, e11, e12, e14]; repeat (simp (disch := omega) only [w64_d, ipos, ineg, dpos, dneg]; try simp only [go_sem, List.reduceReplicate, Nat.reduceAdd, Nat.reduceMul, Nat.reduceSub, Nat.reduceBEq, Nat.reduceEqDiff, Nat.reduceLeDiff, Nat.reduceLT, Int.reduceLE, Int.reduceLT, Int.reduceAdd, Int.reduceSub, Int.reduceNeg, Int.reduceToNat, Int.reduceEq, ↓reduceIte, reduceCtorEq, e1, e2, e3, e4, e5, e6, e7, e8, e9, e10, e11, e12, e14]))
      have ea : (⟨#[100, 49, 105]⟩ : ByteArray) = ⟨(hasS 8).toArray⟩ := rfl
      have eh : hasT 8 c = (hasS 8).any fun b => decide ((b.toNat : Int) = c) := rfl
      rw [ea, eh]
      generalize hasS 8 = a at *
      clear e1 e2 e3 e4 e5 e6 e7 e8 e9 e10 e11 e12 e14
      rotate_left
      have hl := hasS_len 9 (by decide)
      have e1 : (fn 9 = (⟨#[82]⟩ : ByteArray)) = False := eq_false (by decide)
      have e2 : (fn 9 = (⟨#[73]⟩ : ByteArray)) = False := eq_false (by decide)
      have e3 : (fn 9 = (⟨#[83]⟩ : ByteArray)) = False := eq_false (by decide)
      have e4 : (fn 9 = (⟨#[66]⟩ : ByteArray)) = False := eq_false (by decide)
      have e5 : (fn 9 = (⟨#[85]⟩ : ByteArray)) = False := eq_false (by decide)
      have e6 : (fn 9 = (⟨#[74]⟩ : ByteArray)) = False := eq_false (by decide)
      have e7 : (fn 9 = (⟨#[83, 104, 105, 102, 116]⟩ : ByteArray)) = False := eq_false (by decide)
      have e8 : (fn 9 = (⟨#[83, 104, 105, 102, 116, 87]⟩ : ByteArray)) = False := eq_false (by decide)
      have e9 : (fn 9 = (⟨#[67, 115, 114]⟩ : ByteArray)) = True := eq_true (by decide)
      have e10 : (fn 9 = (⟨#[67, 115, 114, 73]⟩ : ByteArray)) = False := eq_false (by decide)
      have e11 : (fn 9 = (⟨#[65]⟩ : ByteArray)) = False := eq_false (by decide)
      have e12 : (fn 9 = (⟨#[76, 114]⟩ : ByteArray)) = False := eq_false (by decide)
      have e14 : (fn 9 = (⟨#[83, 102, 101, 110, 99, 101]⟩ : ByteArray)) = False := eq_false (by decide)
      (try simp only [go_sem, List.reduceReplicate, Nat.reduceAdd, Nat.reduceMul, Nat.reduceSub, Nat.reduceBEq, Nat.reduceEqDiff, Nat.reduceLeDiff, Nat.reduceLT, Int.reduceLE, Int.reduceLT, Int.reduceAdd, Int.reduceSub, Int.reduceNeg, Int.reduceToNat, Int.reduceEq, ↓reduceIte, reduceCtorEq, e1, e2, e3, e4, e5, e6, e7, e8, e9, e10, e11, e12, e14]; repeat (simp (disch := omega) only [w64_d, ipos, ineg, dpos, dneg]; try simp only [go_sem, List.reduceReplicate, Nat.reduceAdd, Nat.reduceMul, Nat.reduceSub, Nat.reduceBEq, Nat.reduceEqDiff, Nat.reduceLeDiff, Nat.reduceLT, Int.reduceLE, Int.reduceLT, Int.reduceAdd, Int.reduceSub, Int.reduceNeg, Int.reduceToNat, Int.reduceEq, ↓reduceIte, reduceCtorEq, e1, e2, e3, e4, e5, e6, e7, e8, e9, e10, e11, e12, e14]))
      have ea : (⟨#[100, 49, 99]⟩ : ByteArray) = ⟨(hasS 9).toArray⟩ := rfl
      have eh : hasT 9 c = (hasS 9).any fun b => decide ((b.toNat : Int) = c) := rfl
      rw [ea, eh]
      generalize hasS 9 = a at *
      clear e1 e2 e3 e4 e5 e6 e7 e8 e9 e10 e11 e12 e14
      rotate_left
      have hl := hasS_len 10 (by decide)
      have e1 : (fn 10 = (⟨#[82]⟩ : ByteArray)) = False := eq_false (by decide)
      have e2 : (fn 10 = (⟨#[73]⟩ : ByteArray)) = False := eq_false (by decide)
      have e3 : (fn 10 = (⟨#[83]⟩ : ByteArray)) = False := eq_false (by decide)
      have e4 : (fn 10 = (⟨#[66]⟩ : ByteArray)) = False := eq_false (by decide)
      have e5 : (fn 10 = (⟨#[85]⟩ : ByteArray)) = False := eq_false (by decide)
      have e6 : (fn 10 = (⟨#[74]⟩ : ByteArray)) = False := eq_false (by decide)
      have e7 : (fn 10 = (⟨#[83, 104, 105, 102, 116]⟩ : ByteArray)) = False := eq_false (by decide)
      have e8 : (fn 10 = (⟨#[83, 104, 105, 102, 116, 87]⟩ : ByteArray)) = False := eq_false (by decide)
      have e9 : (fn 10 = (⟨#[67, 115, 114]⟩ : ByteArray)) = False := eq_false (by decide)
      have e10 : (fn 10 = (⟨#[67, 115, 114, 73]⟩ : ByteArray)) = True := eq_true (by decide)
      have e11 : (fn 10 = (⟨#[65]⟩ : ByteArray)) = False := eq_false (by decide)
      have e12 : (fn 10 = (⟨#[76, 114]⟩ : ByteArray)) = False := eq_false (by decide)
      have e14 : (fn 10 = (⟨#[83, 102, 101, 110, 99, 101]⟩ : ByteArray)) = False := eq_false (by decide)
      (try simp only [go_sem, List.reduceReplicate, Nat.reduceAdd, Nat.reduceMul, Nat.reduceSub, Nat.reduceBEq, Nat.reduceEqDiff, Nat.reduceLeDiff, Nat.reduceLT, Int.reduceLE, Int.reduceLT, Int.reduceAdd, Int.reduceSub, Int.reduceNeg, Int.reduceToNat, Int.reduceEq, ↓reduceIte, reduceCtorEq, e1, e2, e3, e4, e5, e6, e7, e8, e9, e10, e11, e12, e14]; repeat (simp (disch := omega) only [w64_d, ipos, ineg, dpos, dneg]; try simp only [go_sem, List.reduceReplicate, Nat.reduceAdd, Nat.reduceMul, Nat.reduceSub, Nat.reduceBEq, Nat.reduceEqDiff, Nat.reduceLeDiff, Nat.reduceLT, Int.reduceLE, Int.reduceLT, Int.reduceAdd, Int.reduceSub, Int.reduceNeg, Int.reduceToNat, Int.reduceEq, ↓reduceIte, reduceCtorEq, e1, e2, e3, e4, e5, e6, e7, e8, e9, e10, e11, e12, e14]))
      have ea : (⟨#[100, 49, 99]⟩ : ByteArray) = ⟨(hasS 10).toArray⟩ := rfl
      have eh : hasT 10 c = (hasS 10).any fun b => decide ((b.toNat : Int) = c) := rfl
      rw [ea, eh]
      generalize hasS 10 = a at *
      clear e1 e2 e3 e4 e5 e6 e7 e8 e9 e10 e11 e12 e14
      rotate_left
      have hl := hasS_len 11 (by decide)
      have e1 : (fn 11 = (⟨#[82]⟩ : ByteArray)) = False := eq_false (by decide)
      have e2 : (fn 11 = (⟨#[73]⟩ : ByteArray)) = False := eq_false (by decide)
      have e3 : (fn 11 = (⟨#[83]⟩ : ByteArray)) = False := eq_false (by decide)
      have e4 : (fn 11 = (⟨#[66]⟩ : ByteArray)) = False := eq_false (by decide)
      have e5 : (fn 11 = (⟨#[85]⟩ : ByteArray)) = False := eq_false (by decide)
      have e6 : (fn 11 = (⟨#[74]⟩ : ByteArray)) = False := eq_false (by decide)
      have e7 : (fn 11 = (⟨#[83, 104, 105, 102, 116]⟩ : ByteArray)) = False := eq_false (by decide)
      have e8 : (fn 11 = (⟨#[83, 104, 105, 102, 116, 87]⟩ : ByteArray)) = False := eq_false (by decide)
      have e9 : (fn 11 = (⟨#[67, 115, 114]⟩ : ByteArray)) = False := eq_false (by decide)
      have e10 : (fn 11 = (⟨#[67, 115, 114, 73]⟩ : ByteArray)) = False := eq_false (by decide)
      have e11 : (fn 11 = (⟨#[65]⟩ : ByteArray)) = True := eq_true (by decide)
      have e12 : (fn 11 = (⟨#[76, 114]⟩ : ByteArray)) = False := eq_false (by decide)
      have e14 : (fn 11 = (⟨#[83, 102, 101, 110, 99, 101]⟩ : ByteArray)) = False := eq_false (by decide)
      (try simp only [go_sem, List.reduceReplicate, Nat.reduceAdd, Nat.reduceMul, Nat.reduceSub, Nat.reduceBEq, Nat.reduceEqDiff, Nat.reduceLeDiff, Nat.reduceLT, Int.reduceLE, Int.reduceLT, Int.reduceAdd, Int.reduceSub, Int.reduceNeg, Int.reduceToNat, Int.reduceEq, ↓reduceIte, reduceCtorEq, e1, e2, e3, e4, e5, e6, e7, e8, e9, e10, e11, e12, e14]; repeat (simp (disch := omega) only [w64_d, ipos, ineg, dpos, dneg]; try simp only [go_sem, List.reduceReplicate, Nat.reduceAdd, Nat.reduceMul, Nat.reduceSub, Nat.reduceBEq, Nat.reduceEqDiff, Nat.reduceLeDiff, Nat.reduceLT, Int.reduceLE, Int.reduceLT, Int.reduceAdd, Int.reduceSub, Int.reduceNeg, Int.reduceToNat, Int.reduceEq, ↓reduceIte, reduceCtorEq, e1, e2, e3, e4, e5, e6, e7, e8, e9, e10, e11, e12, e14]))
      have ea : (⟨#[100, 49, 50, 113]⟩ : ByteArray) = ⟨(hasS 11).toArray⟩ := rfl
      have eh : hasT 11 c = (hasS 11).any fun b => decide ((b.toNat : Int) = c) := rfl
      rw [ea, eh]
      generalize hasS 11 = a at *
      clear e1 e2 e3 e4 e5 e6 e7 e8 e9 e10 e11 e12 e14
      rotate_left
      have hl := hasS_len 12 (by decide)
      have e1 : (fn 12 = (⟨#[82]⟩ : ByteArray)) = False := eq_false (by decide)
      have e2 : (fn 12 = (⟨#[73]⟩ : ByteArray)) = False := eq_false (by decide)
      have e3 : (fn 12 = (⟨#[83]⟩ : ByteArray)) = False := eq_false (by decide)
      have e4 : (fn 12 = (⟨#[66]⟩ : ByteArray)) = False := eq_false (by decide)
      have e5 : (fn 12 = (⟨#[85]⟩ : ByteArray)) = False := eq_false (by decide)
      have e6 : (fn 12 = (⟨#[74]⟩ : ByteArray)) = False := eq_false (by decide)
      have e7 : (fn 12 = (⟨#[83, 104, 105, 102, 116]⟩ : ByteArray)) = False := eq_false (by decide)
      have e8 : (fn 12 = (⟨#[83, 104, 105, 102, 116, 87]⟩ : ByteArray)) = False := eq_false (by decide)
      have e9 : (fn 12 = (⟨#[67, 115, 114]⟩ : ByteArray)) = False := eq_false (by decide)
      have e10 : (fn 12 = (⟨#[67, 115, 114, 73]⟩ : ByteArray)) = False := eq_false (by decide)
      have e11 : (fn 12 = (⟨#[65]⟩ : ByteArray)) = False := eq_false (by decide)
      have e12 : (fn 12 = (⟨#[76, 114]⟩ : ByteArray)) = True := eq_true (by decide)
      have e14 : (fn 12 = (⟨#[83, 102, 101, 110, 99, 101]⟩ : ByteArray)) = False := eq_false (by decide)
      (try simp only [go_sem, List.reduceReplicate, Nat.reduceAdd, Nat.reduceMul, Nat.reduceSub, Nat.reduceBEq, Nat.reduceEqDiff, Nat.reduceLeDiff, Nat.reduceLT, Int.reduceLE, Int.reduceLT, Int.reduceAdd, Int.reduceSub, Int.reduceNeg, Int.reduceToNat, Int.reduceEq, ↓reduceIte, reduceCtorEq, e1, e2, e3, e4, e5, e6, e7, e8, e9, e10, e11, e12, e14]; repeat (simp (disch := omega) only [w64_d, ipos, ineg, dpos, dneg]; try simp only [go_sem, List.reduceReplicate, Nat.reduceAdd, Nat.reduceMul, Nat.reduceSub, Nat.reduceBEq, Nat.reduceEqDiff, Nat.reduceLeDiff, Nat.reduceLT, Int.reduceLE, Int.reduceLT, Int.reduceAdd, Int.reduceSub, Int.reduceNeg, Int.reduceToNat, Int.reduceEq, ↓reduceIte, reduceCtorEq, e1, e2, e3, e4, e5, e6, e7, e8, e9, e10, e11, e12, e14]))
      have ea : (⟨#[100, 49, 113]⟩ : ByteArray) = ⟨(hasS 12).toArray⟩ := rfl
      have eh : hasT 12 c = (hasS 12).any fun b => decide ((b.toNat : Int) = c) := rfl
      rw [ea, eh]
      generalize hasS 12 = a at *
      clear e1 e2 e3 e4 e5 e6 e7 e8 e9 e10 e11 e12 e14
      rotate_left
      have hl := hasS_len 13 (by decide)
      have e1 : (fn 13 = (⟨#[82]⟩ : ByteArray)) = False := eq_false (by decide)
      have e2 : (fn 13 = (⟨#[73]⟩ : ByteArray)) = False := eq_false (by decide)
      have e3 : (fn 13 = (⟨#[83]⟩ : ByteArray)) = False := eq_false (by decide)
      have e4 : (fn 13 = (⟨#[66]⟩ : ByteArray)) = False := eq_false (by decide)
      have e5 : (fn 13 = (⟨#[85]⟩ : ByteArray)) = False := eq_false (by decide)
      have e6 : (fn 13 = (⟨#[74]⟩ : ByteArray)) = False := eq_false (by decide)
      have e7 : (fn 13 = (⟨#[83, 104, 105, 102, 116]⟩ : ByteArray)) = False := eq_false (by decide)
      have e8 : (fn 13 = (⟨#[83, 104, 105, 102, 116, 87]⟩ : ByteArray)) = False := eq_false (by decide)
      have e9 : (fn 13 = (⟨#[67, 115, 114]⟩ : ByteArray)) = False := eq_false (by decide)
      have e10 : (fn 13 = (⟨#[67, 115, 114, 73]⟩ : ByteArray)) = False := eq_false (by decide)
      have e11 : (fn 13 = (⟨#[65]⟩ : ByteArray)) = False := eq_false (by decide)
      have e12 : (fn 13 = (⟨#[76, 114]⟩ : ByteArray)) = False := eq_false (by decide)
      have e14 : (fn 13 = (⟨#[83, 102, 101, 110, 99, 101]⟩ : ByteArray)) = False := eq_false (by decide)
      (try simp only [go_sem, List.reduceReplicate, Nat.reduceAdd, Nat.reduceMul, Nat.reduceSub, Nat.reduceBEq, Nat.reduceEqDiff, Nat.reduceLeDiff, Nat.reduceLT, Int.reduceLE, Int.reduceLT, Int.reduceAdd, Int.reduceSub, Int.reduceNeg, Int.reduceToNat, Int.reduceEq, ↓reduceIte, reduceCtorEq, e1, e2, e3, e4, e5, e6, e7, e8, e9, e10, e11, e12, e14]; repeat (simp (disch := omega) only [w64_d, ipos, ineg, dpos, dneg]; try simp only [go_sem, List.reduceReplicate, Nat.reduceAdd, Nat.reduceMul, Nat.reduceSub, Nat.reduceBEq, Nat.reduceEqDiff, Nat.reduceLeDiff, Nat.reduceLT, Int.reduceLE, Int.reduceLT, Int.reduceAdd, Int.reduceSub, Int.reduceNeg, Int.reduceToNat, Int.reduceEq, ↓reduceIte, reduceCtorEq, e1, e2, e3, e4, e5, e6, e7, e8, e9, e10, e11, e12, e14]))
      have ea : (⟨#[]⟩ : ByteArray) = ⟨(hasS 13).toArray⟩ := rfl
      have eh : hasT 13 c = (hasS 13).any fun b => decide ((b.toNat : Int) = c) := rfl
      rw [ea, eh]
      generalize hasS 13 = a at *
      clear e1 e2 e3 e4 e5 e6 e7 e8 e9 e10 e11 e12 e14
      rotate_left
      have hl := hasS_len 14 (by decide)
      have e1 : (fn 14 = (⟨#[82]⟩ : ByteArray)) = False := eq_false (by decide)
      have e2 : (fn 14 = (⟨#[73]⟩ : ByteArray)) = False := eq_false (by decide)
      have e3 : (fn 14 = (⟨#[83]⟩ : ByteArray)) = False := eq_false (by decide)
      have e4 : (fn 14 = (⟨#[66]⟩ : ByteArray)) = False := eq_false (by decide)
      have e5 : (fn 14 = (⟨#[85]⟩ : ByteArray)) = False := eq_false (by decide)
      have e6 : (fn 14 = (⟨#[74]⟩ : ByteArray)) = False := eq_false (by decide)
      have e7 : (fn 14 = (⟨#[83, 104, 105, 102, 116]⟩ : ByteArray)) = False := eq_false (by decide)
      have e8 : (fn 14 = (⟨#[83, 104, 105, 102, 116, 87]⟩ : ByteArray)) = False := eq_false (by decide)
      have e9 : (fn 14 = (⟨#[67, 115, 114]⟩ : ByteArray)) = False := eq_false (by decide)
      have e10 : (fn 14 = (⟨#[67, 115, 114, 73]⟩ : ByteArray)) = False := eq_false (by decide)
      have e11 : (fn 14 = (⟨#[65]⟩ : ByteArray)) = False := eq_false (by decide)
      have e12 : (fn 14 = (⟨#[76, 114]⟩ : ByteArray)) = False := eq_false (by decide)
      have e14 : (fn 14 = (⟨#[83, 102, 101, 110, 99, 101]⟩ : ByteArray)) = True := eq_true (by decide)
      (try simp only [go_sem, List.reduceReplicate, Nat.reduceAdd, Nat.reduceMul, Nat.reduceSub, Nat.reduceBEq, Nat.reduceEqDiff, Nat.reduceLeDiff, Nat.reduceLT, Int.reduceLE, Int.reduceLT, Int.reduceAdd, Int.reduceSub, Int.reduceNeg, Int.reduceToNat, Int.reduceEq, ↓reduceIte, reduceCtorEq, e1, e2, e3, e4, e5, e6, e7, e8, e9, e10, e11, e12, e14]; repeat (simp (disch := omega) only [w64_d, ipos, ineg, dpos, dneg]; try simp only [go_sem, List.reduceReplicate, Nat.reduceAdd, Nat.reduceMul, Nat.reduceSub, Nat.reduceBEq, Nat.reduceEqDiff, Nat.reduceLeDiff, Nat.reduceLT, Int.reduceLE, Int.reduceLT, Int.reduceAdd, Int.reduceSub, Int.reduceNeg, Int.reduceToNat, Int.reduceEq, ↓reduceIte, reduceCtorEq, e1, e2, e3, e4, e5, e6, e7, e8, e9, e10, e11, e12, e14]))
      have ea : (⟨#[49, 50]⟩ : ByteArray) = ⟨(hasS 14).toArray⟩ := rfl
      have eh : hasT 14 c = (hasS 14).any fun b => decide ((b.toNat : Int) = c) := rfl
      rw [ea, eh]
      generalize hasS 14 = a at *
      clear e1 e2 e3 e4 e5 e6 e7 e8 e9 e10 e11 e12 e14
      rotate_left
      all_goals
        have sz : (⟨a.toArray⟩ : ByteArray).size = a.length := rfl
        rw [arun_loop]
        refine ⟨{k : Nat // k ≤ a.length ∧ ∀ j, j < k → ((a.getD j 0).toNat : Int) ≠ c}, fun k => ([(1, .c (.k .u8 c)), (4, .c (.b false)), (5, .c (.s ⟨a.toArray⟩)), (6, .c (.i k.1))], []), fun k => a.length - k.1, ⟨0, by omega, by omega⟩, Wk.fr (by simp [Am.get]), ?_⟩
        rintro ⟨k, hk, hj⟩
        by_cases hlt : k < a.length
        · have e1 : w64 ((k : Int) + 1) = ((k + 1 : Nat) : Int) := by rw [w64_of (by omega)]; omega
          have k0 : (0 : Int) ≤ (k : Int) := by omega
          have hI : (k : Int) < (a.length : Int) := by omega
          have ga : (⟨a.toArray⟩ : ByteArray).data.getD k 0 = a.getD k 0 := by simp [Array.getD, List.getD_eq_getElem?_getD, hlt]
          by_cases he : ((a.getD k 0).toNat : Int) = c
          · have rr := any_hit hlt he
            (try simp only [go_sem, List.reduceReplicate, Nat.reduceAdd, Nat.reduceMul, Nat.reduceSub, Nat.reduceBEq, Nat.reduceEqDiff, Nat.reduceLeDiff, Nat.reduceLT, Int.reduceLE, Int.reduceLT, Int.reduceAdd, Int.reduceSub, Int.reduceNeg, Int.reduceToNat, Int.reduceEq, ↓reduceIte, reduceCtorEq, e1, k0, hI, sz, ga, he, rr]; repeat (simp (disch := omega) only [w64_d, ipos, ineg, dpos, dneg]; try simp only [go_sem, List.reduceReplicate, Nat.reduceAdd, Nat.reduceMul, Nat.reduceSub, Nat.reduceBEq, Nat.reduceEqDiff, Nat.reduceLeDiff, Nat.reduceLT, Int.reduceLE, Int.reduceLT, Int.reduceAdd, Int.reduceSub, Int.reduceNeg, Int.reduceToNat, Int.reduceEq, ↓reduceIte, reduceCtorEq, e1, k0, hI, sz, ga, he, rr]))
          · (try simp only [go_sem, List.reduceReplicate, Nat.reduceAdd, Nat.reduceMul, Nat.reduceSub, Nat.reduceBEq, Nat.reduceEqDiff, Nat.reduceLeDiff, Nat.reduceLT, Int.reduceLE, Int.reduceLT, Int.reduceAdd, Int.reduceSub, Int.reduceNeg, Int.reduceToNat, Int.reduceEq, ↓reduceIte, reduceCtorEq, e1, k0, hI, sz, ga, he]; repeat (simp (disch := omega) only [w64_d, ipos, ineg, dpos, dneg]; try simp only [go_sem, List.reduceReplicate, Nat.reduceAdd, Nat.reduceMul, Nat.reduceSub, Nat.reduceBEq, Nat.reduceEqDiff, Nat.reduceLeDiff, Nat.reduceLT, Int.reduceLE, Int.reduceLT, Int.reduceAdd, Int.reduceSub, Int.reduceNeg, Int.reduceToNat, Int.reduceEq, ↓reduceIte, reduceCtorEq, e1, k0, hI, sz, ga, he]))
            exact ⟨⟨k + 1, by omega, fun j hjk => (Nat.lt_or_ge j k).elim (fun h => hj j h) (fun h => by have e : j = k := Nat.le_antisymm (Nat.lt_succ_iff.1 hjk) h; rw [e]; exact he)⟩, by simp only; omega, Wk.fr (by simp [Am.get])⟩
        · obtain rfl : k = a.length := by omega
          have rr := any_no hj
          (try simp only [go_sem, List.reduceReplicate, Nat.reduceAdd, Nat.reduceMul, Nat.reduceSub, Nat.reduceBEq, Nat.reduceEqDiff, Nat.reduceLeDiff, Nat.reduceLT, Int.reduceLE, Int.reduceLT, Int.reduceAdd, Int.reduceSub, Int.reduceNeg, Int.reduceToNat, Int.reduceEq, ↓reduceIte, reduceCtorEq, sz, rr]; repeat (simp (disch := omega) only [w64_d, ipos, ineg, dpos, dneg]; try simp only [go_sem, List.reduceReplicate, Nat.reduceAdd, Nat.reduceMul, Nat.reduceSub, Nat.reduceBEq, Nat.reduceEqDiff, Nat.reduceLeDiff, Nat.reduceLT, Int.reduceLE, Int.reduceLT, Int.reduceAdd, Int.reduceSub, Int.reduceNeg, Int.reduceToNat, Int.reduceEq, ↓reduceIte, reduceCtorEq, sz, rr]))
    · simp at h
  · simp at h
end
end Go.Proofs.Ytcfnfdafcfpohaa
