/- Layer 21: the document's causes: contracts. -/
import Derived.Test.YtjlbgjhnhhihoaaGreatEx0
import Derived.Test.YtjlbgjhnhhihoaaGreatEx3
namespace Go.Proofs.YtjlbgjhnhhihoaaGreat
open Go.Am
set_option linter.unusedSimpArgs false
set_option linter.unusedVariables false
noncomputable section

def n21 : List (List UInt8) := [[105, 110, 115, 110, 45, 97, 108, 105, 103, 110],
  [105, 110, 115, 110, 45, 102, 97, 117, 108, 116],
  [105, 108, 108, 101, 103, 97, 108],
  [98, 114, 101, 97, 107],
  [108, 111, 97, 100, 45, 97, 108, 105, 103, 110],
  [108, 111, 97, 100, 45, 102, 97, 117, 108, 116],
  [115, 116, 111, 114, 101, 45, 97, 108, 105, 103, 110],
  [115, 116, 111, 114, 101, 45, 102, 97, 117, 108, 116],
  [99, 97, 108, 108, 45, 117, 115, 101, 114],
  [99, 97, 108, 108, 45, 115, 117, 112, 101, 114],
  [99, 97, 108, 108, 45, 109, 97, 99, 104, 105, 110, 101],
  [105, 110, 115, 110, 45, 112, 97, 103, 101],
  [108, 111, 97, 100, 45, 112, 97, 103, 101],
  [115, 116, 111, 114, 101, 45, 112, 97, 103, 101],
  [115, 117, 112, 101, 114, 45, 115, 111, 102, 116],
  [109, 97, 99, 104, 105, 110, 101, 45, 115, 111, 102, 116],
  [115, 117, 112, 101, 114, 45, 116, 105, 109, 101],
  [109, 97, 99, 104, 105, 110, 101, 45, 116, 105, 109, 101],
  [115, 117, 112, 101, 114, 45, 111, 117, 116, 101, 114],
  [109, 97, 99, 104, 105, 110, 101, 45, 111, 117, 116, 101, 114]]
def c21 : List Int := [0, 1, 2, 3, 4, 5, 6, 7, 8, 9, 11, 12, 13, 15, 1, 3, 5, 7, 9, 11]
def it21 (i : Nat) : Bool := decide (14 ≤ i)
def cd21 (i : Nat) : Int := c21.getD i 0
def nm21 (i : Nat) : ByteArray := ⟨(n21.getD i []).toArray⟩
def row21 (i : Nat) : List Sc := [.b (it21 i), .i (cd21 i), .s (nm21 i)]
def rows21 : List Sc := (List.range 20).flatMap row21
theorem row21_l (i : Nat) : (row21 i).length = 3 := rfl
theorem rows21_len : rows21.length = 60 := by unfold rows21; rw [fm_len row21_l, List.length_range]
theorem fin_eq {n : Nat} {v : AV} {H H1 : AH} (h : H = H1) : ∃ v', some v = some v' ∧ Wk n [(0, v')] H ([(0, v)], H1) := by
  subst h; exact fin_same
def s_r21rows (args : List AV) (H : AH) : Option (AV × AH) :=
  match args with
  | [] => some (.c (.sl H.length 0 60 20), H ++ [.vec 3 rows21])
  | _ => none
theorem s_r21rows_eq {H : AH} : s_r21rows [] H = some (.c (.sl H.length 0 60 20), H ++ [.vec 3 rows21]) := rfl
theorem len_r21rows (args : List AV) (H : AH) (v : AV) (H1 : AH) (h : s_r21rows args H = some (v, H1)) : H.length ≤ H1.length := by
  unfold s_r21rows at h
  split at h
  · simp only [Option.some.injEq, Prod.mk.injEq] at h; rw [← h.2]; simp
  · simp at h
set_option maxHeartbeats 20000000 in
set_option maxRecDepth 100000 in
set_option maxHeartbeats 2000000 in
theorem ok_r21rows : FpOk Tryz.prog 108 s_r21rows := by
  refine fp_ok (s := s_r21rows) (tab := []) hmix TabOk.nil Tryz.func108 rfl Tryz.results108 Tryz.ntmps108 (by kernel_rfl) (by kernel_rfl) len_r21rows ?_
  intro args H v H1 h hargs hH
  unfold s_r21rows at h
  split at h
  · simp only [Option.some.injEq, Prod.mk.injEq] at h
    obtain ⟨rfl, rfl⟩ := h
    refine ⟨by decide, ?_⟩
    (try simp (config := { maxSteps := 10000000 }) only [go_sem, List.reduceReplicate, BitVec.reduceOfInt, BitVec.reduceToNat, BitVec.reduceToInt, BitVec.reduceEq, BitVec.reduceLT, BitVec.reduceLE, BitVec.reduceAdd, BitVec.reduceSub, BitVec.reduceMul, BitVec.reduceUDiv, BitVec.reduceUMod, BitVec.reduceAnd, BitVec.reduceOr, BitVec.reduceXOr, BitVec.reduceNot, BitVec.reduceNeg, BitVec.reduceHShiftLeft, BitVec.reduceHShiftRight, Nat.reduceAdd, Nat.reduceMul, Nat.reduceSub, Nat.reduceBEq, Nat.reduceEqDiff, Nat.reduceLeDiff, Nat.reduceLT, Int.reduceLE, Int.reduceLT, Int.reduceAdd, Int.reduceSub, Int.reduceMul, Int.reduceNeg, Int.reduceToNat, Int.reduceEq, ↓reduceIte, reduceCtorEq, List.append_eq, List.cons_append, List.nil_append]; repeat (simp (disch := omega) only [w64_d, ipos, ineg, dpos, dneg]; try simp (config := { maxSteps := 10000000 }) only [go_sem, List.reduceReplicate, BitVec.reduceOfInt, BitVec.reduceToNat, BitVec.reduceToInt, BitVec.reduceEq, BitVec.reduceLT, BitVec.reduceLE, BitVec.reduceAdd, BitVec.reduceSub, BitVec.reduceMul, BitVec.reduceUDiv, BitVec.reduceUMod, BitVec.reduceAnd, BitVec.reduceOr, BitVec.reduceXOr, BitVec.reduceNot, BitVec.reduceNeg, BitVec.reduceHShiftLeft, BitVec.reduceHShiftRight, Nat.reduceAdd, Nat.reduceMul, Nat.reduceSub, Nat.reduceBEq, Nat.reduceEqDiff, Nat.reduceLeDiff, Nat.reduceLT, Int.reduceLE, Int.reduceLT, Int.reduceAdd, Int.reduceSub, Int.reduceMul, Int.reduceNeg, Int.reduceToNat, Int.reduceEq, ↓reduceIte, reduceCtorEq, List.append_eq, List.cons_append, List.nil_append]))
    exact fin_eq (by kernel_rfl)
  · simp at h
def fst21 (s : ByteArray) : Nat := fstN (fun i => decide (nm21 i = s)) 20
def itS (s : ByteArray) : Bool := if fst21 s < 20 then it21 (fst21 s) else false
def cdS (s : ByteArray) : Int := if fst21 s < 20 then cd21 (fst21 s) else 0
set_option maxHeartbeats 4000000 in
def s_r21find (args : List AV) : Option AV :=
  match args with
  | [.c (.s s)] => some (.t [.g [.b (itS s), .i (cdS s)], .c (.b (decide (fst21 s < 20)))])
  | _ => none
theorem s_r21find_eq {s} : s_r21find [.c (.s s)] = some (.t [.g [.b (itS s), .i (cdS s)], .c (.b (decide (fst21 s < 20)))]) := rfl
set_option maxRecDepth 100000 in
set_option maxHeartbeats 2000000 in
theorem ok_r21find : PuOk Tryz.prog 95 s_r21find := by
  refine pu_ok (tab := [(108, .fp s_r21rows)]) hmix (TabOk.cons (e := .fp s_r21rows) ok_r21rows TabOk.nil) Tryz.func95 rfl Tryz.results95 Tryz.ntmps95 (by kernel_rfl) (by kernel_rfl) ?_
  intro args v h
  unfold s_r21find at h
  split at h
  · rename_i s
    simp only [Option.some.injEq] at h; subst h
    refine ⟨by simp only [List.length_cons, List.length_nil]; decide, rfl, rfl, ?_⟩
    (try simp (config := { maxSteps := 10000000 }) only [go_sem, List.reduceReplicate, BitVec.reduceOfInt, BitVec.reduceToNat, BitVec.reduceToInt, BitVec.reduceEq, BitVec.reduceLT, BitVec.reduceLE, BitVec.reduceAdd, BitVec.reduceSub, BitVec.reduceMul, BitVec.reduceUDiv, BitVec.reduceUMod, BitVec.reduceAnd, BitVec.reduceOr, BitVec.reduceXOr, BitVec.reduceNot, BitVec.reduceNeg, BitVec.reduceHShiftLeft, BitVec.reduceHShiftRight, Nat.reduceAdd, Nat.reduceMul, Nat.reduceSub, Nat.reduceBEq, Nat.reduceEqDiff, Nat.reduceLeDiff, Nat.reduceLT, Int.reduceLE, Int.reduceLT, Int.reduceAdd, Int.reduceSub, Int.reduceMul, Int.reduceNeg, Int.reduceToNat, Int.reduceEq, ↓reduceIte, reduceCtorEq, s_r21rows_eq]; repeat (simp (disch := omega) only [w64_d, ipos, ineg, dpos, dneg]; try simp (config := { maxSteps := 10000000 }) only [go_sem, List.reduceReplicate, BitVec.reduceOfInt, BitVec.reduceToNat, BitVec.reduceToInt, BitVec.reduceEq, BitVec.reduceLT, BitVec.reduceLE, BitVec.reduceAdd, BitVec.reduceSub, BitVec.reduceMul, BitVec.reduceUDiv, BitVec.reduceUMod, BitVec.reduceAnd, BitVec.reduceOr, BitVec.reduceXOr, BitVec.reduceNot, BitVec.reduceNeg, BitVec.reduceHShiftLeft, BitVec.reduceHShiftRight, Nat.reduceAdd, Nat.reduceMul, Nat.reduceSub, Nat.reduceBEq, Nat.reduceEqDiff, Nat.reduceLeDiff, Nat.reduceLT, Int.reduceLE, Int.reduceLT, Int.reduceAdd, Int.reduceSub, Int.reduceMul, Int.reduceNeg, Int.reduceToNat, Int.reduceEq, ↓reduceIte, reduceCtorEq, s_r21rows_eq]))
    have fle : fst21 s ≤ 20 := fstN_le (fun i => decide (nm21 i = s)) 20
    refine arun_for (fst21 s) (fun k => ([(0, .c (.s s)), (2, .c (.p 0 0 0)), (4, .c (.sl 1 0 60 20)), (5, .c (.i k))], [.own [.b false, .i 0], .vec 3 rows21])) (Wk.fr (by simp [Am.get])) fun k hk => ?_
    have k0 : (0 : Int) ≤ (k : Int) := by omega
    have e1 : w64 ((k : Int) + 1) = ((k + 1 : Nat) : Int) := by rw [w64_of (by omega)]; omega
    by_cases hlt : k < 20
    rotate_left
    · obtain rfl : k = 20 := by omega
      have e : fst21 s = 20 := by omega
      (try simp (config := { maxSteps := 10000000 }) only [go_sem, List.reduceReplicate, BitVec.reduceOfInt, BitVec.reduceToNat, BitVec.reduceToInt, BitVec.reduceEq, BitVec.reduceLT, BitVec.reduceLE, BitVec.reduceAdd, BitVec.reduceSub, BitVec.reduceMul, BitVec.reduceUDiv, BitVec.reduceUMod, BitVec.reduceAnd, BitVec.reduceOr, BitVec.reduceXOr, BitVec.reduceNot, BitVec.reduceNeg, BitVec.reduceHShiftLeft, BitVec.reduceHShiftRight, Nat.reduceAdd, Nat.reduceMul, Nat.reduceSub, Nat.reduceBEq, Nat.reduceEqDiff, Nat.reduceLeDiff, Nat.reduceLT, Int.reduceLE, Int.reduceLT, Int.reduceAdd, Int.reduceSub, Int.reduceMul, Int.reduceNeg, Int.reduceToNat, Int.reduceEq, ↓reduceIte, reduceCtorEq, itS, cdS, e, rows21_len]; repeat (simp (disch := omega) only [w64_d, ipos, ineg, dpos, dneg]; try simp (config := { maxSteps := 10000000 }) only [go_sem, List.reduceReplicate, BitVec.reduceOfInt, BitVec.reduceToNat, BitVec.reduceToInt, BitVec.reduceEq, BitVec.reduceLT, BitVec.reduceLE, BitVec.reduceAdd, BitVec.reduceSub, BitVec.reduceMul, BitVec.reduceUDiv, BitVec.reduceUMod, BitVec.reduceAnd, BitVec.reduceOr, BitVec.reduceXOr, BitVec.reduceNot, BitVec.reduceNeg, BitVec.reduceHShiftLeft, BitVec.reduceHShiftRight, Nat.reduceAdd, Nat.reduceMul, Nat.reduceSub, Nat.reduceBEq, Nat.reduceEqDiff, Nat.reduceLeDiff, Nat.reduceLT, Int.reduceLE, Int.reduceLT, Int.reduceAdd, Int.reduceSub, Int.reduceMul, Int.reduceNeg, Int.reduceToNat, Int.reduceEq, ↓reduceIte, reduceCtorEq, itS, cdS, e, rows21_len]))
    have kI : (k : Int) < 20 := by omega
    have rat : (List.range 20)[k]? = some k := by simp [hlt]
    have g1 := fm_le row21_l (L := List.range 20) (k := k) (by simpa using hlt)
    have g2 := fm_cell row21_l rat (i := 2) (by decide)
    have g3 := fm_get row21_l rat
    have ec : (List.range 20).flatMap row21 = rows21 := rfl
    rw [ec] at g1 g2 g3
    rw [rows21_len] at g1
    have g2' : rows21.getD (k * 3 + 2) .any = .s (nm21 k) := g2
    have g4 : k * 3 + 2 + 1 ≤ 60 := by omega
    have g5 : k * 3 + 2 ≤ 60 := by omega
    have g6 : (rows21.drop (k * 3)).take 2 = [.b (it21 k), .i (cd21 k)] := by
      have : (rows21.drop (k * 3)).take 2 = ((rows21.drop (k * 3)).take 3).take 2 := by rw [List.take_take]; rfl
      rw [this, g3]; rfl
    by_cases he : k = fst21 s
    · have ee : nm21 k = s := by
        have b := fstN_hit (p := fun i => decide (nm21 i = s)) (n := 20) (show fst21 s < 20 by omega)
        change decide (nm21 (fst21 s) = s) = true at b
        rw [decide_eq_true_eq] at b
        rw [he]; exact b
      have n1 : itS s = it21 k := by unfold itS; rw [if_pos (by omega), he]
      have n2 : cdS s = cd21 k := by unfold cdS; rw [if_pos (by omega), he]
      have n3 : fst21 s < 20 := by omega
      (try simp (config := { maxSteps := 10000000 }) only [go_sem, List.reduceReplicate, BitVec.reduceOfInt, BitVec.reduceToNat, BitVec.reduceToInt, BitVec.reduceEq, BitVec.reduceLT, BitVec.reduceLE, BitVec.reduceAdd, BitVec.reduceSub, BitVec.reduceMul, BitVec.reduceUDiv, BitVec.reduceUMod, BitVec.reduceAnd, BitVec.reduceOr, BitVec.reduceXOr, BitVec.reduceNot, BitVec.reduceNeg, BitVec.reduceHShiftLeft, BitVec.reduceHShiftRight, Nat.reduceAdd, Nat.reduceMul, Nat.reduceSub, Nat.reduceBEq, Nat.reduceEqDiff, Nat.reduceLeDiff, Nat.reduceLT, Int.reduceLE, Int.reduceLT, Int.reduceAdd, Int.reduceSub, Int.reduceMul, Int.reduceNeg, Int.reduceToNat, Int.reduceEq, ↓reduceIte, reduceCtorEq, e1, k0, kI, g2', g4, g5, g6, rows21_len, ee, n1, n2, n3]; repeat (simp (disch := omega) only [w64_d, ipos, ineg, dpos, dneg]; try simp (config := { maxSteps := 10000000 }) only [go_sem, List.reduceReplicate, BitVec.reduceOfInt, BitVec.reduceToNat, BitVec.reduceToInt, BitVec.reduceEq, BitVec.reduceLT, BitVec.reduceLE, BitVec.reduceAdd, BitVec.reduceSub, BitVec.reduceMul, BitVec.reduceUDiv, BitVec.reduceUMod, BitVec.reduceAnd, BitVec.reduceOr, BitVec.reduceXOr, BitVec.reduceNot, BitVec.reduceNeg, BitVec.reduceHShiftLeft, BitVec.reduceHShiftRight, Nat.reduceAdd, Nat.reduceMul, Nat.reduceSub, Nat.reduceBEq, Nat.reduceEqDiff, Nat.reduceLeDiff, Nat.reduceLT, Int.reduceLE, Int.reduceLT, Int.reduceAdd, Int.reduceSub, Int.reduceMul, Int.reduceNeg, Int.reduceToNat, Int.reduceEq, ↓reduceIte, reduceCtorEq, e1, k0, kI, g2', g4, g5, g6, rows21_len, ee, n1, n2, n3]))
      all_goals rfl
    · have ee : (nm21 k = s) = False := by
        have := fstN_not (p := fun i => decide (nm21 i = s)) (n := 20) (k := k) (show k < fst21 s by omega)
        simpa using this
      (try simp (config := { maxSteps := 10000000 }) only [go_sem, List.reduceReplicate, BitVec.reduceOfInt, BitVec.reduceToNat, BitVec.reduceToInt, BitVec.reduceEq, BitVec.reduceLT, BitVec.reduceLE, BitVec.reduceAdd, BitVec.reduceSub, BitVec.reduceMul, BitVec.reduceUDiv, BitVec.reduceUMod, BitVec.reduceAnd, BitVec.reduceOr, BitVec.reduceXOr, BitVec.reduceNot, BitVec.reduceNeg, BitVec.reduceHShiftLeft, BitVec.reduceHShiftRight, Nat.reduceAdd, Nat.reduceMul, Nat.reduceSub, Nat.reduceBEq, Nat.reduceEqDiff, Nat.reduceLeDiff, Nat.reduceLT, Int.reduceLE, Int.reduceLT, Int.reduceAdd, Int.reduceSub, Int.reduceMul, Int.reduceNeg, Int.reduceToNat, Int.reduceEq, ↓reduceIte, reduceCtorEq, e1, k0, kI, g2', g4, g5, rows21_len, ee]; repeat (simp (disch := omega) only [w64_d, ipos, ineg, dpos, dneg]; try simp (config := { maxSteps := 10000000 }) only [go_sem, List.reduceReplicate, BitVec.reduceOfInt, BitVec.reduceToNat, BitVec.reduceToInt, BitVec.reduceEq, BitVec.reduceLT, BitVec.reduceLE, BitVec.reduceAdd, BitVec.reduceSub, BitVec.reduceMul, BitVec.reduceUDiv, BitVec.reduceUMod, BitVec.reduceAnd, BitVec.reduceOr, BitVec.reduceXOr, BitVec.reduceNot, BitVec.reduceNeg, BitVec.reduceHShiftLeft, BitVec.reduceHShiftRight, Nat.reduceAdd, Nat.reduceMul, Nat.reduceSub, Nat.reduceBEq, Nat.reduceEqDiff, Nat.reduceLeDiff, Nat.reduceLT, Int.reduceLE, Int.reduceLT, Int.reduceAdd, Int.reduceSub, Int.reduceMul, Int.reduceNeg, Int.reduceToNat, Int.reduceEq, ↓reduceIte, reduceCtorEq, e1, k0, kI, g2', g4, g5, rows21_len, ee]))
      exact ⟨k + 1, by omega, by omega, Wk.fr (by simp [Am.get])⟩
  · simp at h
def s_r21exc (args : List AV) : Option AV :=
  match args with
  | [.c (.s s)] => some (.g [.b (itS s), .i (cdS s)])
  | _ => none
theorem s_r21exc_eq {s} : s_r21exc [.c (.s s)] = some (.g [.b (itS s), .i (cdS s)]) := rfl
set_option maxRecDepth 100000 in
set_option maxHeartbeats 2000000 in
theorem ok_r21exc : PuOk Tryz.prog 60 s_r21exc := by
  refine pu_ok (tab := [(95, .pu s_r21find)]) hmix (TabOk.cons (e := .pu s_r21find) ok_r21find TabOk.nil) Tryz.func60 rfl Tryz.results60 Tryz.ntmps60 (by kernel_rfl) (by kernel_rfl) ?_
  intro args v h
  unfold s_r21exc at h
  split at h
  · rename_i s
    simp only [Option.some.injEq] at h; subst h
    refine ⟨by simp only [List.length_cons, List.length_nil]; decide, rfl, rfl, ?_⟩
    (try simp (config := { maxSteps := 10000000 }) only [go_sem, List.reduceReplicate, BitVec.reduceOfInt, BitVec.reduceToNat, BitVec.reduceToInt, BitVec.reduceEq, BitVec.reduceLT, BitVec.reduceLE, BitVec.reduceAdd, BitVec.reduceSub, BitVec.reduceMul, BitVec.reduceUDiv, BitVec.reduceUMod, BitVec.reduceAnd, BitVec.reduceOr, BitVec.reduceXOr, BitVec.reduceNot, BitVec.reduceNeg, BitVec.reduceHShiftLeft, BitVec.reduceHShiftRight, Nat.reduceAdd, Nat.reduceMul, Nat.reduceSub, Nat.reduceBEq, Nat.reduceEqDiff, Nat.reduceLeDiff, Nat.reduceLT, Int.reduceLE, Int.reduceLT, Int.reduceAdd, Int.reduceSub, Int.reduceMul, Int.reduceNeg, Int.reduceToNat, Int.reduceEq, ↓reduceIte, reduceCtorEq, s_r21find_eq]; repeat (simp (disch := omega) only [w64_d, ipos, ineg, dpos, dneg]; try simp (config := { maxSteps := 10000000 }) only [go_sem, List.reduceReplicate, BitVec.reduceOfInt, BitVec.reduceToNat, BitVec.reduceToInt, BitVec.reduceEq, BitVec.reduceLT, BitVec.reduceLE, BitVec.reduceAdd, BitVec.reduceSub, BitVec.reduceMul, BitVec.reduceUDiv, BitVec.reduceUMod, BitVec.reduceAnd, BitVec.reduceOr, BitVec.reduceXOr, BitVec.reduceNot, BitVec.reduceNeg, BitVec.reduceHShiftLeft, BitVec.reduceHShiftRight, Nat.reduceAdd, Nat.reduceMul, Nat.reduceSub, Nat.reduceBEq, Nat.reduceEqDiff, Nat.reduceLeDiff, Nat.reduceLT, Int.reduceLE, Int.reduceLT, Int.reduceAdd, Int.reduceSub, Int.reduceMul, Int.reduceNeg, Int.reduceToNat, Int.reduceEq, ↓reduceIte, reduceCtorEq, s_r21find_eq]))
  · simp at h
theorem exc_u : itS (⟨#[99, 97, 108, 108, 45, 117, 115, 101, 114]⟩ : ByteArray) = false ∧ cdS (⟨#[99, 97, 108, 108, 45, 117, 115, 101, 114]⟩ : ByteArray) = 8 := by decide +kernel
theorem exc_s : itS (⟨#[99, 97, 108, 108, 45, 115, 117, 112, 101, 114]⟩ : ByteArray) = false ∧ cdS (⟨#[99, 97, 108, 108, 45, 115, 117, 112, 101, 114]⟩ : ByteArray) = 9 := by decide +kernel
theorem exc_m : itS (⟨#[99, 97, 108, 108, 45, 109, 97, 99, 104, 105, 110, 101]⟩ : ByteArray) = false ∧ cdS (⟨#[99, 97, 108, 108, 45, 109, 97, 99, 104, 105, 110, 101]⟩ : ByteArray) = 11 := by decide +kernel
theorem exc_i : itS (⟨#[105, 110, 115, 110, 45, 97, 108, 105, 103, 110]⟩ : ByteArray) = false ∧ cdS (⟨#[105, 110, 115, 110, 45, 97, 108, 105, 103, 110]⟩ : ByteArray) = 0 := by decide +kernel
theorem exc_l : itS (⟨#[108, 111, 97, 100, 45, 97, 108, 105, 103, 110]⟩ : ByteArray) = false ∧ cdS (⟨#[108, 111, 97, 100, 45, 97, 108, 105, 103, 110]⟩ : ByteArray) = 4 := by decide +kernel
theorem exc_t : itS (⟨#[115, 116, 111, 114, 101, 45, 97, 108, 105, 103, 110]⟩ : ByteArray) = false ∧ cdS (⟨#[115, 116, 111, 114, 101, 45, 97, 108, 105, 103, 110]⟩ : ByteArray) = 6 := by decide +kernel
theorem exc_b : itS (⟨#[98, 114, 101, 97, 107]⟩ : ByteArray) = false ∧ cdS (⟨#[98, 114, 101, 97, 107]⟩ : ByteArray) = 3 := by decide +kernel
def s_r21call (args : List AV) : Option AV :=
  match args with
  | [.c (.i p)] => some (.g [.b false, .i (callI p)])
  | _ => none
theorem s_r21call_eq {p} : s_r21call [.c (.i p)] = some (.g [.b false, .i (callI p)]) := rfl
set_option maxRecDepth 100000 in
set_option maxHeartbeats 2000000 in
theorem ok_r21call : PuOk Tryz.prog 33 s_r21call := by
  refine pu_ok (tab := [(60, .pu s_r21exc)]) hmix (TabOk.cons (e := .pu s_r21exc) ok_r21exc TabOk.nil) Tryz.func33 rfl Tryz.results33 Tryz.ntmps33 (by kernel_rfl) (by kernel_rfl) ?_
  intro args v h
  unfold s_r21call at h
  split at h
  · rename_i p
    simp only [Option.some.injEq] at h; subst h
    refine ⟨by simp only [List.length_cons, List.length_nil]; decide, rfl, rfl, ?_⟩
    by_cases h0 : p = 0
    · subst h0; (try simp (config := { maxSteps := 10000000 }) only [go_sem, List.reduceReplicate, BitVec.reduceOfInt, BitVec.reduceToNat, BitVec.reduceToInt, BitVec.reduceEq, BitVec.reduceLT, BitVec.reduceLE, BitVec.reduceAdd, BitVec.reduceSub, BitVec.reduceMul, BitVec.reduceUDiv, BitVec.reduceUMod, BitVec.reduceAnd, BitVec.reduceOr, BitVec.reduceXOr, BitVec.reduceNot, BitVec.reduceNeg, BitVec.reduceHShiftLeft, BitVec.reduceHShiftRight, Nat.reduceAdd, Nat.reduceMul, Nat.reduceSub, Nat.reduceBEq, Nat.reduceEqDiff, Nat.reduceLeDiff, Nat.reduceLT, Int.reduceLE, Int.reduceLT, Int.reduceAdd, Int.reduceSub, Int.reduceMul, Int.reduceNeg, Int.reduceToNat, Int.reduceEq, ↓reduceIte, reduceCtorEq, s_r21exc_eq, exc_u.1, exc_u.2, callI]; repeat (simp (disch := omega) only [w64_d, ipos, ineg, dpos, dneg]; try simp (config := { maxSteps := 10000000 }) only [go_sem, List.reduceReplicate, BitVec.reduceOfInt, BitVec.reduceToNat, BitVec.reduceToInt, BitVec.reduceEq, BitVec.reduceLT, BitVec.reduceLE, BitVec.reduceAdd, BitVec.reduceSub, BitVec.reduceMul, BitVec.reduceUDiv, BitVec.reduceUMod, BitVec.reduceAnd, BitVec.reduceOr, BitVec.reduceXOr, BitVec.reduceNot, BitVec.reduceNeg, BitVec.reduceHShiftLeft, BitVec.reduceHShiftRight, Nat.reduceAdd, Nat.reduceMul, Nat.reduceSub, Nat.reduceBEq, Nat.reduceEqDiff, Nat.reduceLeDiff, Nat.reduceLT, Int.reduceLE, Int.reduceLT, Int.reduceAdd, Int.reduceSub, Int.reduceMul, Int.reduceNeg, Int.reduceToNat, Int.reduceEq, ↓reduceIte, reduceCtorEq, s_r21exc_eq, exc_u.1, exc_u.2, callI]))
    by_cases h1 : p = 1
    · subst h1; (try simp (config := { maxSteps := 10000000 }) only [go_sem, List.reduceReplicate, BitVec.reduceOfInt, BitVec.reduceToNat, BitVec.reduceToInt, BitVec.reduceEq, BitVec.reduceLT, BitVec.reduceLE, BitVec.reduceAdd, BitVec.reduceSub, BitVec.reduceMul, BitVec.reduceUDiv, BitVec.reduceUMod, BitVec.reduceAnd, BitVec.reduceOr, BitVec.reduceXOr, BitVec.reduceNot, BitVec.reduceNeg, BitVec.reduceHShiftLeft, BitVec.reduceHShiftRight, Nat.reduceAdd, Nat.reduceMul, Nat.reduceSub, Nat.reduceBEq, Nat.reduceEqDiff, Nat.reduceLeDiff, Nat.reduceLT, Int.reduceLE, Int.reduceLT, Int.reduceAdd, Int.reduceSub, Int.reduceMul, Int.reduceNeg, Int.reduceToNat, Int.reduceEq, ↓reduceIte, reduceCtorEq, s_r21exc_eq, exc_s.1, exc_s.2, callI]; repeat (simp (disch := omega) only [w64_d, ipos, ineg, dpos, dneg]; try simp (config := { maxSteps := 10000000 }) only [go_sem, List.reduceReplicate, BitVec.reduceOfInt, BitVec.reduceToNat, BitVec.reduceToInt, BitVec.reduceEq, BitVec.reduceLT, BitVec.reduceLE, BitVec.reduceAdd, BitVec.reduceSub, BitVec.reduceMul, BitVec.reduceUDiv, BitVec.reduceUMod, BitVec.reduceAnd, BitVec.reduceOr, BitVec.reduceXOr, BitVec.reduceNot, BitVec.reduceNeg, BitVec.reduceHShiftLeft, BitVec.reduceHShiftRight, Nat.reduceAdd, Nat.reduceMul, Nat.reduceSub, Nat.reduceBEq, Nat.reduceEqDiff, Nat.reduceLeDiff, Nat.reduceLT, Int.reduceLE, Int.reduceLT, Int.reduceAdd, Int.reduceSub, Int.reduceMul, Int.reduceNeg, Int.reduceToNat, Int.reduceEq, ↓reduceIte, reduceCtorEq, s_r21exc_eq, exc_s.1, exc_s.2, callI]))
    · (try simp (config := { maxSteps := 10000000 }) only [go_sem, List.reduceReplicate, BitVec.reduceOfInt, BitVec.reduceToNat, BitVec.reduceToInt, BitVec.reduceEq, BitVec.reduceLT, BitVec.reduceLE, BitVec.reduceAdd, BitVec.reduceSub, BitVec.reduceMul, BitVec.reduceUDiv, BitVec.reduceUMod, BitVec.reduceAnd, BitVec.reduceOr, BitVec.reduceXOr, BitVec.reduceNot, BitVec.reduceNeg, BitVec.reduceHShiftLeft, BitVec.reduceHShiftRight, Nat.reduceAdd, Nat.reduceMul, Nat.reduceSub, Nat.reduceBEq, Nat.reduceEqDiff, Nat.reduceLeDiff, Nat.reduceLT, Int.reduceLE, Int.reduceLT, Int.reduceAdd, Int.reduceSub, Int.reduceMul, Int.reduceNeg, Int.reduceToNat, Int.reduceEq, ↓reduceIte, reduceCtorEq, s_r21exc_eq, h0, h1, exc_m.1, exc_m.2, callI]; repeat (simp (disch := omega) only [w64_d, ipos, ineg, dpos, dneg]; try simp (config := { maxSteps := 10000000 }) only [go_sem, List.reduceReplicate, BitVec.reduceOfInt, BitVec.reduceToNat, BitVec.reduceToInt, BitVec.reduceEq, BitVec.reduceLT, BitVec.reduceLE, BitVec.reduceAdd, BitVec.reduceSub, BitVec.reduceMul, BitVec.reduceUDiv, BitVec.reduceUMod, BitVec.reduceAnd, BitVec.reduceOr, BitVec.reduceXOr, BitVec.reduceNot, BitVec.reduceNeg, BitVec.reduceHShiftLeft, BitVec.reduceHShiftRight, Nat.reduceAdd, Nat.reduceMul, Nat.reduceSub, Nat.reduceBEq, Nat.reduceEqDiff, Nat.reduceLeDiff, Nat.reduceLT, Int.reduceLE, Int.reduceLT, Int.reduceAdd, Int.reduceSub, Int.reduceMul, Int.reduceNeg, Int.reduceToNat, Int.reduceEq, ↓reduceIte, reduceCtorEq, s_r21exc_eq, h0, h1, exc_m.1, exc_m.2, callI]))
  · simp at h
def s_r30trap (args : List AV) : Option AV :=
  match args with
  | [.c (.s s), .c (.u tv)] => some (.g [.i 2, .i 0, .u 0#64, .u 0#64, .b (itS s), .i (cdS s), .u tv, .i 0, .i 0, .u 0#64, .i 0, .u 0#64])
  | _ => none
theorem s_r30trap_eq {s tv} : s_r30trap [.c (.s s), .c (.u tv)] = some (.g [.i 2, .i 0, .u 0#64, .u 0#64, .b (itS s), .i (cdS s), .u tv, .i 0, .i 0, .u 0#64, .i 0, .u 0#64]) := rfl
set_option maxRecDepth 100000 in
set_option maxHeartbeats 2000000 in
theorem ok_r30trap : PuOk Tryz.prog 28 s_r30trap := by
  refine pu_ok (tab := [(60, .pu s_r21exc)]) hmix (TabOk.cons (e := .pu s_r21exc) ok_r21exc TabOk.nil) Tryz.func28 rfl Tryz.results28 Tryz.ntmps28 (by kernel_rfl) (by kernel_rfl) ?_
  intro args v h
  unfold s_r30trap at h
  split at h
  · rename_i s tv
    simp only [Option.some.injEq] at h; subst h
    refine ⟨by simp only [List.length_cons, List.length_nil]; decide, rfl, rfl, ?_⟩
    (try simp (config := { maxSteps := 10000000 }) only [go_sem, List.reduceReplicate, BitVec.reduceOfInt, BitVec.reduceToNat, BitVec.reduceToInt, BitVec.reduceEq, BitVec.reduceLT, BitVec.reduceLE, BitVec.reduceAdd, BitVec.reduceSub, BitVec.reduceMul, BitVec.reduceUDiv, BitVec.reduceUMod, BitVec.reduceAnd, BitVec.reduceOr, BitVec.reduceXOr, BitVec.reduceNot, BitVec.reduceNeg, BitVec.reduceHShiftLeft, BitVec.reduceHShiftRight, Nat.reduceAdd, Nat.reduceMul, Nat.reduceSub, Nat.reduceBEq, Nat.reduceEqDiff, Nat.reduceLeDiff, Nat.reduceLT, Int.reduceLE, Int.reduceLT, Int.reduceAdd, Int.reduceSub, Int.reduceMul, Int.reduceNeg, Int.reduceToNat, Int.reduceEq, ↓reduceIte, reduceCtorEq, s_r21exc_eq]; repeat (simp (disch := omega) only [w64_d, ipos, ineg, dpos, dneg]; try simp (config := { maxSteps := 10000000 }) only [go_sem, List.reduceReplicate, BitVec.reduceOfInt, BitVec.reduceToNat, BitVec.reduceToInt, BitVec.reduceEq, BitVec.reduceLT, BitVec.reduceLE, BitVec.reduceAdd, BitVec.reduceSub, BitVec.reduceMul, BitVec.reduceUDiv, BitVec.reduceUMod, BitVec.reduceAnd, BitVec.reduceOr, BitVec.reduceXOr, BitVec.reduceNot, BitVec.reduceNeg, BitVec.reduceHShiftLeft, BitVec.reduceHShiftRight, Nat.reduceAdd, Nat.reduceMul, Nat.reduceSub, Nat.reduceBEq, Nat.reduceEqDiff, Nat.reduceLeDiff, Nat.reduceLT, Int.reduceLE, Int.reduceLT, Int.reduceAdd, Int.reduceSub, Int.reduceMul, Int.reduceNeg, Int.reduceToNat, Int.reduceEq, ↓reduceIte, reduceCtorEq, s_r21exc_eq]))
  · simp at h

end
end Go.Proofs.YtjlbgjhnhhihoaaGreat
