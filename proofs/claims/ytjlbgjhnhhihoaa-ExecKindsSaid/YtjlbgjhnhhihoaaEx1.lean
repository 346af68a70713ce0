/- Layer 30: what an instruction does by itself: contracts. -/
import Derived.Test.YtjlbgjhnhhihoaaM2
import Derived.Test.YtjlbgjhnhhihoaaA3
import Derived.Test.YtjlbgjhnhhihoaaKn6
import Derived.Test.YtjlbgjhnhhihoaaI1
namespace Go.Proofs.Ytjlbgjhnhhihoaa
open Go.Am
set_option linter.unusedSimpArgs false
set_option linter.unusedVariables false
noncomputable section

def effL (k rd : Int) (v nx : BitVec 64) (cd : Int) (tv : BitVec 64) (ac ak : Int) (va : BitVec 64) (sz : Int) (da : BitVec 64) : List Sc :=
  [.i k, .i rd, .u v, .u nx, .b false, .i cd, .u tv, .i ac, .i ak, .u va, .i sz, .u da]
def isEff (l : List Sc) : Prop := ∃ k rd v nx cd tv ac ak va sz da, l = effL k rd v nx cd tv ac ak va sz da
theorem isEff_mk {k rd v nx cd tv ac ak va sz da} : isEff (effL k rd v nx cd tv ac ak va sz da) := ⟨k, rd, v, nx, cd, tv, ac, ak, va, sz, da, rfl⟩
theorem isEff_len {l : List Sc} (h : isEff l) : l.length = 12 ∧ l.all Sc.one = true ∧ l.all Sc.pf = true ∧ ∀ n, l.all (Sc.bel n) = true := by
  obtain ⟨k, rd, v, nx, cd, tv, ac, ak, va, sz, da, rfl⟩ := h
  exact ⟨rfl, rfl, rfl, fun _ => rfl⟩
def trapL (cd : Int) (tv : BitVec 64) : List Sc := effL 2 0 0#64 0#64 cd tv 0 0 0#64 0 0#64
def plainL (rd : Int) (v nx : BitVec 64) : List Sc := effL 1 rd v nx 0 0#64 0 0 0#64 0 0#64
theorem size_b (op : Int) : 0 ≤ sizeI op ∧ sizeI op ≤ 8 := by
  by_cases h0 : 1 ≤ op ∧ op ≤ 98
  · obtain ⟨k, rfl⟩ := Int.eq_ofNat_of_zero_le (by omega : 0 ≤ op)
    have : ∀ k : Nat, k < 99 → 0 ≤ sizeI k ∧ sizeI k ≤ 8 := by decide +kernel
    exact this k (by omega)
  · have : sizeI op = 0 := size_0 (fun h => h0 (class_in (by rcases h with h | h | h <;> rw [h] <;> decide)))
    omega
theorem size_p {op : Int} (h : classI op = 7) : 0 < sizeI op := by
  rw [class_7] at h
  unfold sizeI wiB
  by_cases h1 : op ≤ 77
  · rw [if_pos (by simp; omega)]; omega
  · rw [if_neg (by simp; omega), if_pos (by simp; omega)]; omega
theorem size_w (op : Int) : w64 (8 * sizeI op) = 8 * sizeI op ∧ inR (8 * sizeI op) := by
  have := size_b op
  exact ⟨w64_of (by omega), by omega, by omega⟩
def landU (op : Int) (d : BitVec 64) (gd : Bool) : BitVec 64 :=
  if classI op = 5 then (if signB op = true then signU d (8 * sizeI op) else lowU d (8 * sizeI op)) else
  if classI op = 7 then (if condB op = true then (if gd = true then 0#64 else 1#64) else loadU op d) else 0#64
def s_xlands (args : List AV) : Option AV :=
  match args with
  | [.g [.i op, .i rd, .i r1, .i r2, .i im, .i cs, .b aq, .b rl], .g (.u d :: .b gd :: m)] => if m.length = 40 ∧ m.all Sc.pf = true then some (.c (.u (landU op d gd))) else none
  | _ => none
theorem s_xlands_eq {op rd r1 r2 im cs aq rl d gd m} : s_xlands [.g [.i op, .i rd, .i r1, .i r2, .i im, .i cs, .b aq, .b rl], .g (.u d :: .b gd :: m)] = if m.length = 40 ∧ m.all Sc.pf = true then some (.c (.u (landU op d gd))) else none := rfl
set_option maxRecDepth 100000 in
set_option maxHeartbeats 2000000 in
theorem ok_xlands : PuOk Try.prog 5 s_xlands := by
  refine pu_ok (tab := [(12, .pu s_class), (13, .pu s_ksign), (15, .pu s_ksize), (14, .pu s_sign), (16, .pu s_low), (17, .pu s_acond), (18, .pu s_loaded)]) hmix (TabOk.cons (e := .pu s_class) ok_class (TabOk.cons (e := .pu s_ksign) ok_ksign (TabOk.cons (e := .pu s_ksize) ok_ksize (TabOk.cons (e := .pu s_sign) ok_sign (TabOk.cons (e := .pu s_low) ok_low (TabOk.cons (e := .pu s_acond) ok_acond (TabOk.cons (e := .pu s_loaded) ok_loaded TabOk.nil))))))) Try.func5 rfl Try.results5 Try.ntmps5 (by kernel_rfl) (by kernel_rfl) ?_
  intro args v h
  unfold s_xlands at h
  split at h
  · rename_i op rd r1 r2 im cs aq rl d gd m
    split at h
    · rename_i hc
      simp only [Option.some.injEq] at h; subst h
      obtain ⟨lm, pm⟩ := hc
      refine ⟨by simp only [List.length_cons, List.length_nil]; decide, by first | rfl | simp only [List.all_cons, List.all_nil, AV.pf, Sc.pf, Bool.and_true, *], by first | rfl | simp only [List.all_cons, List.all_nil, AV.pf, Sc.pf, Bool.and_true, *], ?_⟩
      obtain ⟨e1, i1⟩ := size_w op
      by_cases h5 : classI op = 5
      · cases h : signB op
        all_goals (try simp (config := { maxSteps := 10000000 }) only [go_sem, List.reduceReplicate, BitVec.reduceOfInt, BitVec.reduceToNat, BitVec.reduceToInt, BitVec.reduceEq, BitVec.reduceLT, BitVec.reduceLE, BitVec.reduceAdd, BitVec.reduceSub, BitVec.reduceMul, BitVec.reduceUDiv, BitVec.reduceUMod, BitVec.reduceAnd, BitVec.reduceOr, BitVec.reduceXOr, BitVec.reduceNot, BitVec.reduceNeg, BitVec.reduceHShiftLeft, BitVec.reduceHShiftRight, Nat.reduceAdd, Nat.reduceMul, Nat.reduceSub, Nat.reduceBEq, Nat.reduceEqDiff, Nat.reduceLeDiff, Nat.reduceLT, Int.reduceLE, Int.reduceLT, Int.reduceAdd, Int.reduceSub, Int.reduceMul, Int.reduceNeg, Int.reduceToNat, Int.reduceEq, ↓reduceIte, reduceCtorEq, s_class_eq, s_ksign_eq, s_ksize_eq, s_sign_eq, s_low_eq, s_acond_eq, s_loaded_eq, h5, h, e1, i1, landU, lm]; repeat (simp (disch := omega) only [w64_d, ipos, ineg, dpos, dneg]; try simp (config := { maxSteps := 10000000 }) only [go_sem, List.reduceReplicate, BitVec.reduceOfInt, BitVec.reduceToNat, BitVec.reduceToInt, BitVec.reduceEq, BitVec.reduceLT, BitVec.reduceLE, BitVec.reduceAdd, BitVec.reduceSub, BitVec.reduceMul, BitVec.reduceUDiv, BitVec.reduceUMod, BitVec.reduceAnd, BitVec.reduceOr, BitVec.reduceXOr, BitVec.reduceNot, BitVec.reduceNeg, BitVec.reduceHShiftLeft, BitVec.reduceHShiftRight, Nat.reduceAdd, Nat.reduceMul, Nat.reduceSub, Nat.reduceBEq, Nat.reduceEqDiff, Nat.reduceLeDiff, Nat.reduceLT, Int.reduceLE, Int.reduceLT, Int.reduceAdd, Int.reduceSub, Int.reduceMul, Int.reduceNeg, Int.reduceToNat, Int.reduceEq, ↓reduceIte, reduceCtorEq, s_class_eq, s_ksign_eq, s_ksize_eq, s_sign_eq, s_low_eq, s_acond_eq, s_loaded_eq, h5, h, e1, i1, landU, lm]))
      by_cases h7 : classI op = 7
      · cases h : condB op
        all_goals cases gd
        all_goals (try simp (config := { maxSteps := 10000000 }) only [go_sem, List.reduceReplicate, BitVec.reduceOfInt, BitVec.reduceToNat, BitVec.reduceToInt, BitVec.reduceEq, BitVec.reduceLT, BitVec.reduceLE, BitVec.reduceAdd, BitVec.reduceSub, BitVec.reduceMul, BitVec.reduceUDiv, BitVec.reduceUMod, BitVec.reduceAnd, BitVec.reduceOr, BitVec.reduceXOr, BitVec.reduceNot, BitVec.reduceNeg, BitVec.reduceHShiftLeft, BitVec.reduceHShiftRight, Nat.reduceAdd, Nat.reduceMul, Nat.reduceSub, Nat.reduceBEq, Nat.reduceEqDiff, Nat.reduceLeDiff, Nat.reduceLT, Int.reduceLE, Int.reduceLT, Int.reduceAdd, Int.reduceSub, Int.reduceMul, Int.reduceNeg, Int.reduceToNat, Int.reduceEq, ↓reduceIte, reduceCtorEq, s_class_eq, s_ksign_eq, s_ksize_eq, s_sign_eq, s_low_eq, s_acond_eq, s_loaded_eq, h7, h, landU, lm]; repeat (simp (disch := omega) only [w64_d, ipos, ineg, dpos, dneg]; try simp (config := { maxSteps := 10000000 }) only [go_sem, List.reduceReplicate, BitVec.reduceOfInt, BitVec.reduceToNat, BitVec.reduceToInt, BitVec.reduceEq, BitVec.reduceLT, BitVec.reduceLE, BitVec.reduceAdd, BitVec.reduceSub, BitVec.reduceMul, BitVec.reduceUDiv, BitVec.reduceUMod, BitVec.reduceAnd, BitVec.reduceOr, BitVec.reduceXOr, BitVec.reduceNot, BitVec.reduceNeg, BitVec.reduceHShiftLeft, BitVec.reduceHShiftRight, Nat.reduceAdd, Nat.reduceMul, Nat.reduceSub, Nat.reduceBEq, Nat.reduceEqDiff, Nat.reduceLeDiff, Nat.reduceLT, Int.reduceLE, Int.reduceLT, Int.reduceAdd, Int.reduceSub, Int.reduceMul, Int.reduceNeg, Int.reduceToNat, Int.reduceEq, ↓reduceIte, reduceCtorEq, s_class_eq, s_ksign_eq, s_ksize_eq, s_sign_eq, s_low_eq, s_acond_eq, s_loaded_eq, h7, h, landU, lm]))
      · (try simp (config := { maxSteps := 10000000 }) only [go_sem, List.reduceReplicate, BitVec.reduceOfInt, BitVec.reduceToNat, BitVec.reduceToInt, BitVec.reduceEq, BitVec.reduceLT, BitVec.reduceLE, BitVec.reduceAdd, BitVec.reduceSub, BitVec.reduceMul, BitVec.reduceUDiv, BitVec.reduceUMod, BitVec.reduceAnd, BitVec.reduceOr, BitVec.reduceXOr, BitVec.reduceNot, BitVec.reduceNeg, BitVec.reduceHShiftLeft, BitVec.reduceHShiftRight, Nat.reduceAdd, Nat.reduceMul, Nat.reduceSub, Nat.reduceBEq, Nat.reduceEqDiff, Nat.reduceLeDiff, Nat.reduceLT, Int.reduceLE, Int.reduceLT, Int.reduceAdd, Int.reduceSub, Int.reduceMul, Int.reduceNeg, Int.reduceToNat, Int.reduceEq, ↓reduceIte, reduceCtorEq, s_class_eq, s_ksign_eq, s_ksize_eq, s_sign_eq, s_low_eq, s_acond_eq, s_loaded_eq, h5, h7, landU, lm]; repeat (simp (disch := omega) only [w64_d, ipos, ineg, dpos, dneg]; try simp (config := { maxSteps := 10000000 }) only [go_sem, List.reduceReplicate, BitVec.reduceOfInt, BitVec.reduceToNat, BitVec.reduceToInt, BitVec.reduceEq, BitVec.reduceLT, BitVec.reduceLE, BitVec.reduceAdd, BitVec.reduceSub, BitVec.reduceMul, BitVec.reduceUDiv, BitVec.reduceUMod, BitVec.reduceAnd, BitVec.reduceOr, BitVec.reduceXOr, BitVec.reduceNot, BitVec.reduceNeg, BitVec.reduceHShiftLeft, BitVec.reduceHShiftRight, Nat.reduceAdd, Nat.reduceMul, Nat.reduceSub, Nat.reduceBEq, Nat.reduceEqDiff, Nat.reduceLeDiff, Nat.reduceLT, Int.reduceLE, Int.reduceLT, Int.reduceAdd, Int.reduceSub, Int.reduceMul, Int.reduceNeg, Int.reduceToNat, Int.reduceEq, ↓reduceIte, reduceCtorEq, s_class_eq, s_ksign_eq, s_ksize_eq, s_sign_eq, s_low_eq, s_acond_eq, s_loaded_eq, h5, h7, landU, lm]))
    · simp at h
  · simp at h
def numB (op : Int) : Bool := decide (fmtT op = 2 ∨ fmtT op = 7 ∨ fmtT op = 8)
def s_xnum (args : List AV) : Option AV :=
  match args with
  | [.c (.i op)] => some (.c (.b (numB op)))
  | _ => none
theorem s_xnum_eq {op} : s_xnum [.c (.i op)] = some (.c (.b (numB op))) := rfl
set_option maxRecDepth 100000 in
set_option maxHeartbeats 2000000 in
theorem ok_xnum : PuOk Try.prog 25 s_xnum := by
  refine pu_ok (tab := [(44, .pu s_iformat)]) hmix (TabOk.cons (e := .pu s_iformat) ok_iformat TabOk.nil) Try.func25 rfl Try.results25 Try.ntmps25 (by kernel_rfl) (by kernel_rfl) ?_
  intro args v h
  unfold s_xnum at h
  split at h
  · rename_i op
    simp only [Option.some.injEq] at h; subst h
    refine ⟨by simp only [List.length_cons, List.length_nil]; decide, rfl, rfl, ?_⟩
    (try simp (config := { maxSteps := 10000000 }) only [go_sem, List.reduceReplicate, BitVec.reduceOfInt, BitVec.reduceToNat, BitVec.reduceToInt, BitVec.reduceEq, BitVec.reduceLT, BitVec.reduceLE, BitVec.reduceAdd, BitVec.reduceSub, BitVec.reduceMul, BitVec.reduceUDiv, BitVec.reduceUMod, BitVec.reduceAnd, BitVec.reduceOr, BitVec.reduceXOr, BitVec.reduceNot, BitVec.reduceNeg, BitVec.reduceHShiftLeft, BitVec.reduceHShiftRight, Nat.reduceAdd, Nat.reduceMul, Nat.reduceSub, Nat.reduceBEq, Nat.reduceEqDiff, Nat.reduceLeDiff, Nat.reduceLT, Int.reduceLE, Int.reduceLT, Int.reduceAdd, Int.reduceSub, Int.reduceMul, Int.reduceNeg, Int.reduceToNat, Int.reduceEq, ↓reduceIte, reduceCtorEq, s_iformat_eq, numB]; repeat (simp (disch := omega) only [w64_d, ipos, ineg, dpos, dneg]; try simp (config := { maxSteps := 10000000 }) only [go_sem, List.reduceReplicate, BitVec.reduceOfInt, BitVec.reduceToNat, BitVec.reduceToInt, BitVec.reduceEq, BitVec.reduceLT, BitVec.reduceLE, BitVec.reduceAdd, BitVec.reduceSub, BitVec.reduceMul, BitVec.reduceUDiv, BitVec.reduceUMod, BitVec.reduceAnd, BitVec.reduceOr, BitVec.reduceXOr, BitVec.reduceNot, BitVec.reduceNeg, BitVec.reduceHShiftLeft, BitVec.reduceHShiftRight, Nat.reduceAdd, Nat.reduceMul, Nat.reduceSub, Nat.reduceBEq, Nat.reduceEqDiff, Nat.reduceLeDiff, Nat.reduceLT, Int.reduceLE, Int.reduceLT, Int.reduceAdd, Int.reduceSub, Int.reduceMul, Int.reduceNeg, Int.reduceToNat, Int.reduceEq, ↓reduceIte, reduceCtorEq, s_iformat_eq, numB]))
    generalize fmtT op = f
    repeat' (first
      | (refine cnd_by (fun h => ?_) (fun h => ?_) <;> (try simp only [decide_eq_true_eq, decide_eq_false_iff_not, Bool.not_eq_true', Bool.not_eq_false', Bool.not_eq_true, Bool.not_eq_false, Bool.and_eq_true, beq_iff_eq, beq_eq_false_iff_ne, ne_eq, Bool.or_eq_true] at h) <;> ((try simp (config := { maxSteps := 10000000 }) only [go_sem, List.reduceReplicate, BitVec.reduceOfInt, BitVec.reduceToNat, BitVec.reduceToInt, BitVec.reduceEq, BitVec.reduceLT, BitVec.reduceLE, BitVec.reduceAdd, BitVec.reduceSub, BitVec.reduceMul, BitVec.reduceUDiv, BitVec.reduceUMod, BitVec.reduceAnd, BitVec.reduceOr, BitVec.reduceXOr, BitVec.reduceNot, BitVec.reduceNeg, BitVec.reduceHShiftLeft, BitVec.reduceHShiftRight, Nat.reduceAdd, Nat.reduceMul, Nat.reduceSub, Nat.reduceBEq, Nat.reduceEqDiff, Nat.reduceLeDiff, Nat.reduceLT, Int.reduceLE, Int.reduceLT, Int.reduceAdd, Int.reduceSub, Int.reduceMul, Int.reduceNeg, Int.reduceToNat, Int.reduceEq, ↓reduceIte, reduceCtorEq, h]; repeat (simp (disch := omega) only [w64_d, ipos, ineg, dpos, dneg]; try simp (config := { maxSteps := 10000000 }) only [go_sem, List.reduceReplicate, BitVec.reduceOfInt, BitVec.reduceToNat, BitVec.reduceToInt, BitVec.reduceEq, BitVec.reduceLT, BitVec.reduceLE, BitVec.reduceAdd, BitVec.reduceSub, BitVec.reduceMul, BitVec.reduceUDiv, BitVec.reduceUMod, BitVec.reduceAnd, BitVec.reduceOr, BitVec.reduceXOr, BitVec.reduceNot, BitVec.reduceNeg, BitVec.reduceHShiftLeft, BitVec.reduceHShiftRight, Nat.reduceAdd, Nat.reduceMul, Nat.reduceSub, Nat.reduceBEq, Nat.reduceEqDiff, Nat.reduceLeDiff, Nat.reduceLT, Int.reduceLE, Int.reduceLT, Int.reduceAdd, Int.reduceSub, Int.reduceMul, Int.reduceNeg, Int.reduceToNat, Int.reduceEq, ↓reduceIte, reduceCtorEq, h]))))
      | (refine grd_by (fun h => ?_) (fun h => ?_) <;> (try simp only [decide_eq_true_eq, decide_eq_false_iff_not, Bool.not_eq_true', Bool.not_eq_false', Bool.not_eq_true, Bool.not_eq_false, Bool.and_eq_true, beq_iff_eq, beq_eq_false_iff_ne, ne_eq, Bool.or_eq_true] at h) <;> ((try simp (config := { maxSteps := 10000000 }) only [go_sem, List.reduceReplicate, BitVec.reduceOfInt, BitVec.reduceToNat, BitVec.reduceToInt, BitVec.reduceEq, BitVec.reduceLT, BitVec.reduceLE, BitVec.reduceAdd, BitVec.reduceSub, BitVec.reduceMul, BitVec.reduceUDiv, BitVec.reduceUMod, BitVec.reduceAnd, BitVec.reduceOr, BitVec.reduceXOr, BitVec.reduceNot, BitVec.reduceNeg, BitVec.reduceHShiftLeft, BitVec.reduceHShiftRight, Nat.reduceAdd, Nat.reduceMul, Nat.reduceSub, Nat.reduceBEq, Nat.reduceEqDiff, Nat.reduceLeDiff, Nat.reduceLT, Int.reduceLE, Int.reduceLT, Int.reduceAdd, Int.reduceSub, Int.reduceMul, Int.reduceNeg, Int.reduceToNat, Int.reduceEq, ↓reduceIte, reduceCtorEq, h]; repeat (simp (disch := omega) only [w64_d, ipos, ineg, dpos, dneg]; try simp (config := { maxSteps := 10000000 }) only [go_sem, List.reduceReplicate, BitVec.reduceOfInt, BitVec.reduceToNat, BitVec.reduceToInt, BitVec.reduceEq, BitVec.reduceLT, BitVec.reduceLE, BitVec.reduceAdd, BitVec.reduceSub, BitVec.reduceMul, BitVec.reduceUDiv, BitVec.reduceUMod, BitVec.reduceAnd, BitVec.reduceOr, BitVec.reduceXOr, BitVec.reduceNot, BitVec.reduceNeg, BitVec.reduceHShiftLeft, BitVec.reduceHShiftRight, Nat.reduceAdd, Nat.reduceMul, Nat.reduceSub, Nat.reduceBEq, Nat.reduceEqDiff, Nat.reduceLeDiff, Nat.reduceLT, Int.reduceLE, Int.reduceLT, Int.reduceAdd, Int.reduceSub, Int.reduceMul, Int.reduceNeg, Int.reduceToNat, Int.reduceEq, ↓reduceIte, reduceCtorEq, h]))))
      | (refine grdd_by (fun h => ?_) (fun h => ?_) <;> (try simp only [decide_eq_true_eq, decide_eq_false_iff_not, Bool.not_eq_true', Bool.not_eq_false', Bool.not_eq_true, Bool.not_eq_false, Bool.and_eq_true, beq_iff_eq, beq_eq_false_iff_ne, ne_eq, Bool.or_eq_true] at h) <;> ((try simp (config := { maxSteps := 10000000 }) only [go_sem, List.reduceReplicate, BitVec.reduceOfInt, BitVec.reduceToNat, BitVec.reduceToInt, BitVec.reduceEq, BitVec.reduceLT, BitVec.reduceLE, BitVec.reduceAdd, BitVec.reduceSub, BitVec.reduceMul, BitVec.reduceUDiv, BitVec.reduceUMod, BitVec.reduceAnd, BitVec.reduceOr, BitVec.reduceXOr, BitVec.reduceNot, BitVec.reduceNeg, BitVec.reduceHShiftLeft, BitVec.reduceHShiftRight, Nat.reduceAdd, Nat.reduceMul, Nat.reduceSub, Nat.reduceBEq, Nat.reduceEqDiff, Nat.reduceLeDiff, Nat.reduceLT, Int.reduceLE, Int.reduceLT, Int.reduceAdd, Int.reduceSub, Int.reduceMul, Int.reduceNeg, Int.reduceToNat, Int.reduceEq, ↓reduceIte, reduceCtorEq, h]; repeat (simp (disch := omega) only [w64_d, ipos, ineg, dpos, dneg]; try simp (config := { maxSteps := 10000000 }) only [go_sem, List.reduceReplicate, BitVec.reduceOfInt, BitVec.reduceToNat, BitVec.reduceToInt, BitVec.reduceEq, BitVec.reduceLT, BitVec.reduceLE, BitVec.reduceAdd, BitVec.reduceSub, BitVec.reduceMul, BitVec.reduceUDiv, BitVec.reduceUMod, BitVec.reduceAnd, BitVec.reduceOr, BitVec.reduceXOr, BitVec.reduceNot, BitVec.reduceNeg, BitVec.reduceHShiftLeft, BitVec.reduceHShiftRight, Nat.reduceAdd, Nat.reduceMul, Nat.reduceSub, Nat.reduceBEq, Nat.reduceEqDiff, Nat.reduceLeDiff, Nat.reduceLT, Int.reduceLE, Int.reduceLT, Int.reduceAdd, Int.reduceSub, Int.reduceMul, Int.reduceNeg, Int.reduceToNat, Int.reduceEq, ↓reduceIte, reduceCtorEq, h])))))
    all_goals simp [*]
  · simp at h
def s_xtrap (args : List AV) : Option AV :=
  match args with
  | [.g [.b it, .i cd], .c (.u tv)] => some (.g [.i 2, .i 0, .u 0#64, .u 0#64, .b it, .i cd, .u tv, .i 0, .i 0, .u 0#64, .i 0, .u 0#64])
  | _ => none
theorem s_xtrap_eq {it cd tv} : s_xtrap [.g [.b it, .i cd], .c (.u tv)] = some (.g [.i 2, .i 0, .u 0#64, .u 0#64, .b it, .i cd, .u tv, .i 0, .i 0, .u 0#64, .i 0, .u 0#64]) := rfl
set_option maxRecDepth 100000 in
set_option maxHeartbeats 2000000 in
theorem ok_xtrap : PuOk Try.prog 30 s_xtrap := by
  refine pu_ok (tab := []) hmix TabOk.nil Try.func30 rfl Try.results30 Try.ntmps30 (by kernel_rfl) (by kernel_rfl) ?_
  intro args v h
  unfold s_xtrap at h
  split at h
  · rename_i it cd tv
    simp only [Option.some.injEq] at h; subst h
    refine ⟨by simp only [List.length_cons, List.length_nil]; decide, rfl, rfl, ?_⟩
    (try simp (config := { maxSteps := 10000000 }) only [go_sem, List.reduceReplicate, BitVec.reduceOfInt, BitVec.reduceToNat, BitVec.reduceToInt, BitVec.reduceEq, BitVec.reduceLT, BitVec.reduceLE, BitVec.reduceAdd, BitVec.reduceSub, BitVec.reduceMul, BitVec.reduceUDiv, BitVec.reduceUMod, BitVec.reduceAnd, BitVec.reduceOr, BitVec.reduceXOr, BitVec.reduceNot, BitVec.reduceNeg, BitVec.reduceHShiftLeft, BitVec.reduceHShiftRight, Nat.reduceAdd, Nat.reduceMul, Nat.reduceSub, Nat.reduceBEq, Nat.reduceEqDiff, Nat.reduceLeDiff, Nat.reduceLT, Int.reduceLE, Int.reduceLT, Int.reduceAdd, Int.reduceSub, Int.reduceMul, Int.reduceNeg, Int.reduceToNat, Int.reduceEq, ↓reduceIte, reduceCtorEq]; repeat (simp (disch := omega) only [w64_d, ipos, ineg, dpos, dneg]; try simp (config := { maxSteps := 10000000 }) only [go_sem, List.reduceReplicate, BitVec.reduceOfInt, BitVec.reduceToNat, BitVec.reduceToInt, BitVec.reduceEq, BitVec.reduceLT, BitVec.reduceLE, BitVec.reduceAdd, BitVec.reduceSub, BitVec.reduceMul, BitVec.reduceUDiv, BitVec.reduceUMod, BitVec.reduceAnd, BitVec.reduceOr, BitVec.reduceXOr, BitVec.reduceNot, BitVec.reduceNeg, BitVec.reduceHShiftLeft, BitVec.reduceHShiftRight, Nat.reduceAdd, Nat.reduceMul, Nat.reduceSub, Nat.reduceBEq, Nat.reduceEqDiff, Nat.reduceLeDiff, Nat.reduceLT, Int.reduceLE, Int.reduceLT, Int.reduceAdd, Int.reduceSub, Int.reduceMul, Int.reduceNeg, Int.reduceToNat, Int.reduceEq, ↓reduceIte, reduceCtorEq]))
  · simp at h
def s_xpick (args : List AV) : Option AV :=
  match args with
  | [.c (.i a), .g [.i x, .i y, .i z]] => some (.g [.b false, .i (if a = 0 then x else if a = 1 then y else z)])
  | _ => none
theorem s_xpick_eq {a x y z} : s_xpick [.c (.i a), .g [.i x, .i y, .i z]] = some (.g [.b false, .i (if a = 0 then x else if a = 1 then y else z)]) := rfl
set_option maxRecDepth 100000 in
set_option maxHeartbeats 2000000 in
theorem ok_xpick : PuOk Try.prog 75 s_xpick := by
  refine pu_ok (tab := []) hmix TabOk.nil Try.func75 rfl Try.results75 Try.ntmps75 (by kernel_rfl) (by kernel_rfl) ?_
  intro args v h
  unfold s_xpick at h
  split at h
  · rename_i a x y z
    simp only [Option.some.injEq] at h; subst h
    refine ⟨by simp only [List.length_cons, List.length_nil]; decide, rfl, rfl, ?_⟩
    by_cases h0 : a = 0
    · subst h0; (try simp (config := { maxSteps := 10000000 }) only [go_sem, List.reduceReplicate, BitVec.reduceOfInt, BitVec.reduceToNat, BitVec.reduceToInt, BitVec.reduceEq, BitVec.reduceLT, BitVec.reduceLE, BitVec.reduceAdd, BitVec.reduceSub, BitVec.reduceMul, BitVec.reduceUDiv, BitVec.reduceUMod, BitVec.reduceAnd, BitVec.reduceOr, BitVec.reduceXOr, BitVec.reduceNot, BitVec.reduceNeg, BitVec.reduceHShiftLeft, BitVec.reduceHShiftRight, Nat.reduceAdd, Nat.reduceMul, Nat.reduceSub, Nat.reduceBEq, Nat.reduceEqDiff, Nat.reduceLeDiff, Nat.reduceLT, Int.reduceLE, Int.reduceLT, Int.reduceAdd, Int.reduceSub, Int.reduceMul, Int.reduceNeg, Int.reduceToNat, Int.reduceEq, ↓reduceIte, reduceCtorEq]; repeat (simp (disch := omega) only [w64_d, ipos, ineg, dpos, dneg]; try simp (config := { maxSteps := 10000000 }) only [go_sem, List.reduceReplicate, BitVec.reduceOfInt, BitVec.reduceToNat, BitVec.reduceToInt, BitVec.reduceEq, BitVec.reduceLT, BitVec.reduceLE, BitVec.reduceAdd, BitVec.reduceSub, BitVec.reduceMul, BitVec.reduceUDiv, BitVec.reduceUMod, BitVec.reduceAnd, BitVec.reduceOr, BitVec.reduceXOr, BitVec.reduceNot, BitVec.reduceNeg, BitVec.reduceHShiftLeft, BitVec.reduceHShiftRight, Nat.reduceAdd, Nat.reduceMul, Nat.reduceSub, Nat.reduceBEq, Nat.reduceEqDiff, Nat.reduceLeDiff, Nat.reduceLT, Int.reduceLE, Int.reduceLT, Int.reduceAdd, Int.reduceSub, Int.reduceMul, Int.reduceNeg, Int.reduceToNat, Int.reduceEq, ↓reduceIte, reduceCtorEq]))
    by_cases h1 : a = 1
    · subst h1; (try simp (config := { maxSteps := 10000000 }) only [go_sem, List.reduceReplicate, BitVec.reduceOfInt, BitVec.reduceToNat, BitVec.reduceToInt, BitVec.reduceEq, BitVec.reduceLT, BitVec.reduceLE, BitVec.reduceAdd, BitVec.reduceSub, BitVec.reduceMul, BitVec.reduceUDiv, BitVec.reduceUMod, BitVec.reduceAnd, BitVec.reduceOr, BitVec.reduceXOr, BitVec.reduceNot, BitVec.reduceNeg, BitVec.reduceHShiftLeft, BitVec.reduceHShiftRight, Nat.reduceAdd, Nat.reduceMul, Nat.reduceSub, Nat.reduceBEq, Nat.reduceEqDiff, Nat.reduceLeDiff, Nat.reduceLT, Int.reduceLE, Int.reduceLT, Int.reduceAdd, Int.reduceSub, Int.reduceMul, Int.reduceNeg, Int.reduceToNat, Int.reduceEq, ↓reduceIte, reduceCtorEq]; repeat (simp (disch := omega) only [w64_d, ipos, ineg, dpos, dneg]; try simp (config := { maxSteps := 10000000 }) only [go_sem, List.reduceReplicate, BitVec.reduceOfInt, BitVec.reduceToNat, BitVec.reduceToInt, BitVec.reduceEq, BitVec.reduceLT, BitVec.reduceLE, BitVec.reduceAdd, BitVec.reduceSub, BitVec.reduceMul, BitVec.reduceUDiv, BitVec.reduceUMod, BitVec.reduceAnd, BitVec.reduceOr, BitVec.reduceXOr, BitVec.reduceNot, BitVec.reduceNeg, BitVec.reduceHShiftLeft, BitVec.reduceHShiftRight, Nat.reduceAdd, Nat.reduceMul, Nat.reduceSub, Nat.reduceBEq, Nat.reduceEqDiff, Nat.reduceLeDiff, Nat.reduceLT, Int.reduceLE, Int.reduceLT, Int.reduceAdd, Int.reduceSub, Int.reduceMul, Int.reduceNeg, Int.reduceToNat, Int.reduceEq, ↓reduceIte, reduceCtorEq]))
    by_cases h2 : a = 2
    · subst h2; (try simp (config := { maxSteps := 10000000 }) only [go_sem, List.reduceReplicate, BitVec.reduceOfInt, BitVec.reduceToNat, BitVec.reduceToInt, BitVec.reduceEq, BitVec.reduceLT, BitVec.reduceLE, BitVec.reduceAdd, BitVec.reduceSub, BitVec.reduceMul, BitVec.reduceUDiv, BitVec.reduceUMod, BitVec.reduceAnd, BitVec.reduceOr, BitVec.reduceXOr, BitVec.reduceNot, BitVec.reduceNeg, BitVec.reduceHShiftLeft, BitVec.reduceHShiftRight, Nat.reduceAdd, Nat.reduceMul, Nat.reduceSub, Nat.reduceBEq, Nat.reduceEqDiff, Nat.reduceLeDiff, Nat.reduceLT, Int.reduceLE, Int.reduceLT, Int.reduceAdd, Int.reduceSub, Int.reduceMul, Int.reduceNeg, Int.reduceToNat, Int.reduceEq, ↓reduceIte, reduceCtorEq]; repeat (simp (disch := omega) only [w64_d, ipos, ineg, dpos, dneg]; try simp (config := { maxSteps := 10000000 }) only [go_sem, List.reduceReplicate, BitVec.reduceOfInt, BitVec.reduceToNat, BitVec.reduceToInt, BitVec.reduceEq, BitVec.reduceLT, BitVec.reduceLE, BitVec.reduceAdd, BitVec.reduceSub, BitVec.reduceMul, BitVec.reduceUDiv, BitVec.reduceUMod, BitVec.reduceAnd, BitVec.reduceOr, BitVec.reduceXOr, BitVec.reduceNot, BitVec.reduceNeg, BitVec.reduceHShiftLeft, BitVec.reduceHShiftRight, Nat.reduceAdd, Nat.reduceMul, Nat.reduceSub, Nat.reduceBEq, Nat.reduceEqDiff, Nat.reduceLeDiff, Nat.reduceLT, Int.reduceLE, Int.reduceLT, Int.reduceAdd, Int.reduceSub, Int.reduceMul, Int.reduceNeg, Int.reduceToNat, Int.reduceEq, ↓reduceIte, reduceCtorEq]))
    by_cases h3 : a < 0
    · (try simp (config := { maxSteps := 10000000 }) only [go_sem, List.reduceReplicate, BitVec.reduceOfInt, BitVec.reduceToNat, BitVec.reduceToInt, BitVec.reduceEq, BitVec.reduceLT, BitVec.reduceLE, BitVec.reduceAdd, BitVec.reduceSub, BitVec.reduceMul, BitVec.reduceUDiv, BitVec.reduceUMod, BitVec.reduceAnd, BitVec.reduceOr, BitVec.reduceXOr, BitVec.reduceNot, BitVec.reduceNeg, BitVec.reduceHShiftLeft, BitVec.reduceHShiftRight, Nat.reduceAdd, Nat.reduceMul, Nat.reduceSub, Nat.reduceBEq, Nat.reduceEqDiff, Nat.reduceLeDiff, Nat.reduceLT, Int.reduceLE, Int.reduceLT, Int.reduceAdd, Int.reduceSub, Int.reduceMul, Int.reduceNeg, Int.reduceToNat, Int.reduceEq, ↓reduceIte, reduceCtorEq, h0, h1, h3]; repeat (simp (disch := omega) only [w64_d, ipos, ineg, dpos, dneg]; try simp (config := { maxSteps := 10000000 }) only [go_sem, List.reduceReplicate, BitVec.reduceOfInt, BitVec.reduceToNat, BitVec.reduceToInt, BitVec.reduceEq, BitVec.reduceLT, BitVec.reduceLE, BitVec.reduceAdd, BitVec.reduceSub, BitVec.reduceMul, BitVec.reduceUDiv, BitVec.reduceUMod, BitVec.reduceAnd, BitVec.reduceOr, BitVec.reduceXOr, BitVec.reduceNot, BitVec.reduceNeg, BitVec.reduceHShiftLeft, BitVec.reduceHShiftRight, Nat.reduceAdd, Nat.reduceMul, Nat.reduceSub, Nat.reduceBEq, Nat.reduceEqDiff, Nat.reduceLeDiff, Nat.reduceLT, Int.reduceLE, Int.reduceLT, Int.reduceAdd, Int.reduceSub, Int.reduceMul, Int.reduceNeg, Int.reduceToNat, Int.reduceEq, ↓reduceIte, reduceCtorEq, h0, h1, h3]))
    · (try simp (config := { maxSteps := 10000000 }) only [go_sem, List.reduceReplicate, BitVec.reduceOfInt, BitVec.reduceToNat, BitVec.reduceToInt, BitVec.reduceEq, BitVec.reduceLT, BitVec.reduceLE, BitVec.reduceAdd, BitVec.reduceSub, BitVec.reduceMul, BitVec.reduceUDiv, BitVec.reduceUMod, BitVec.reduceAnd, BitVec.reduceOr, BitVec.reduceXOr, BitVec.reduceNot, BitVec.reduceNeg, BitVec.reduceHShiftLeft, BitVec.reduceHShiftRight, Nat.reduceAdd, Nat.reduceMul, Nat.reduceSub, Nat.reduceBEq, Nat.reduceEqDiff, Nat.reduceLeDiff, Nat.reduceLT, Int.reduceLE, Int.reduceLT, Int.reduceAdd, Int.reduceSub, Int.reduceMul, Int.reduceNeg, Int.reduceToNat, Int.reduceEq, ↓reduceIte, reduceCtorEq, h0, h1, h3]; repeat (simp (disch := omega) only [w64_d, ipos, ineg, dpos, dneg]; try simp (config := { maxSteps := 10000000 }) only [go_sem, List.reduceReplicate, BitVec.reduceOfInt, BitVec.reduceToNat, BitVec.reduceToInt, BitVec.reduceEq, BitVec.reduceLT, BitVec.reduceLE, BitVec.reduceAdd, BitVec.reduceSub, BitVec.reduceMul, BitVec.reduceUDiv, BitVec.reduceUMod, BitVec.reduceAnd, BitVec.reduceOr, BitVec.reduceXOr, BitVec.reduceNot, BitVec.reduceNeg, BitVec.reduceHShiftLeft, BitVec.reduceHShiftRight, Nat.reduceAdd, Nat.reduceMul, Nat.reduceSub, Nat.reduceBEq, Nat.reduceEqDiff, Nat.reduceLeDiff, Nat.reduceLT, Int.reduceLE, Int.reduceLT, Int.reduceAdd, Int.reduceSub, Int.reduceMul, Int.reduceNeg, Int.reduceToNat, Int.reduceEq, ↓reduceIte, reduceCtorEq, h0, h1, h3]))
  · simp at h
def s_xalign (args : List AV) : Option AV :=
  match args with
  | [.c (.i a)] => some (.g [.b false, .i (if a = 0 then 0 else if a = 1 then 4 else 6)])
  | _ => none
theorem s_xalign_eq {a} : s_xalign [.c (.i a)] = some (.g [.b false, .i (if a = 0 then 0 else if a = 1 then 4 else 6)]) := rfl
set_option maxRecDepth 100000 in
set_option maxHeartbeats 2000000 in
theorem ok_xalign : PuOk Try.prog 53 s_xalign := by
  refine pu_ok (tab := [(75, .pu s_xpick)]) hmix (TabOk.cons (e := .pu s_xpick) ok_xpick TabOk.nil) Try.func53 rfl Try.results53 Try.ntmps53 (by kernel_rfl) (by kernel_rfl) ?_
  intro args v h
  unfold s_xalign at h
  split at h
  · rename_i a
    simp only [Option.some.injEq] at h; subst h
    refine ⟨by simp only [List.length_cons, List.length_nil]; decide, rfl, rfl, ?_⟩
    (try simp (config := { maxSteps := 10000000 }) only [go_sem, List.reduceReplicate, BitVec.reduceOfInt, BitVec.reduceToNat, BitVec.reduceToInt, BitVec.reduceEq, BitVec.reduceLT, BitVec.reduceLE, BitVec.reduceAdd, BitVec.reduceSub, BitVec.reduceMul, BitVec.reduceUDiv, BitVec.reduceUMod, BitVec.reduceAnd, BitVec.reduceOr, BitVec.reduceXOr, BitVec.reduceNot, BitVec.reduceNeg, BitVec.reduceHShiftLeft, BitVec.reduceHShiftRight, Nat.reduceAdd, Nat.reduceMul, Nat.reduceSub, Nat.reduceBEq, Nat.reduceEqDiff, Nat.reduceLeDiff, Nat.reduceLT, Int.reduceLE, Int.reduceLT, Int.reduceAdd, Int.reduceSub, Int.reduceMul, Int.reduceNeg, Int.reduceToNat, Int.reduceEq, ↓reduceIte, reduceCtorEq, s_xpick_eq]; repeat (simp (disch := omega) only [w64_d, ipos, ineg, dpos, dneg]; try simp (config := { maxSteps := 10000000 }) only [go_sem, List.reduceReplicate, BitVec.reduceOfInt, BitVec.reduceToNat, BitVec.reduceToInt, BitVec.reduceEq, BitVec.reduceLT, BitVec.reduceLE, BitVec.reduceAdd, BitVec.reduceSub, BitVec.reduceMul, BitVec.reduceUDiv, BitVec.reduceUMod, BitVec.reduceAnd, BitVec.reduceOr, BitVec.reduceXOr, BitVec.reduceNot, BitVec.reduceNeg, BitVec.reduceHShiftLeft, BitVec.reduceHShiftRight, Nat.reduceAdd, Nat.reduceMul, Nat.reduceSub, Nat.reduceBEq, Nat.reduceEqDiff, Nat.reduceLeDiff, Nat.reduceLT, Int.reduceLE, Int.reduceLT, Int.reduceAdd, Int.reduceSub, Int.reduceMul, Int.reduceNeg, Int.reduceToNat, Int.reduceEq, ↓reduceIte, reduceCtorEq, s_xpick_eq]))
  · simp at h
def callI (p : Int) : Int := if p = 0 then 8 else if p = 1 then 9 else 11
def s_xcall (args : List AV) : Option AV :=
  match args with
  | [.c (.i p)] => some (.g [.b false, .i (callI p)])
  | _ => none
theorem s_xcall_eq {p} : s_xcall [.c (.i p)] = some (.g [.b false, .i (callI p)]) := rfl
set_option maxRecDepth 100000 in
set_option maxHeartbeats 2000000 in
theorem ok_xcall : PuOk Try.prog 31 s_xcall := by
  refine pu_ok (tab := []) hmix TabOk.nil Try.func31 rfl Try.results31 Try.ntmps31 (by kernel_rfl) (by kernel_rfl) ?_
  intro args v h
  unfold s_xcall at h
  split at h
  · rename_i p
    simp only [Option.some.injEq] at h; subst h
    refine ⟨by simp only [List.length_cons, List.length_nil]; decide, rfl, rfl, ?_⟩
    (try simp (config := { maxSteps := 10000000 }) only [go_sem, List.reduceReplicate, BitVec.reduceOfInt, BitVec.reduceToNat, BitVec.reduceToInt, BitVec.reduceEq, BitVec.reduceLT, BitVec.reduceLE, BitVec.reduceAdd, BitVec.reduceSub, BitVec.reduceMul, BitVec.reduceUDiv, BitVec.reduceUMod, BitVec.reduceAnd, BitVec.reduceOr, BitVec.reduceXOr, BitVec.reduceNot, BitVec.reduceNeg, BitVec.reduceHShiftLeft, BitVec.reduceHShiftRight, Nat.reduceAdd, Nat.reduceMul, Nat.reduceSub, Nat.reduceBEq, Nat.reduceEqDiff, Nat.reduceLeDiff, Nat.reduceLT, Int.reduceLE, Int.reduceLT, Int.reduceAdd, Int.reduceSub, Int.reduceMul, Int.reduceNeg, Int.reduceToNat, Int.reduceEq, ↓reduceIte, reduceCtorEq, callI]; repeat (simp (disch := omega) only [w64_d, ipos, ineg, dpos, dneg]; try simp (config := { maxSteps := 10000000 }) only [go_sem, List.reduceReplicate, BitVec.reduceOfInt, BitVec.reduceToNat, BitVec.reduceToInt, BitVec.reduceEq, BitVec.reduceLT, BitVec.reduceLE, BitVec.reduceAdd, BitVec.reduceSub, BitVec.reduceMul, BitVec.reduceUDiv, BitVec.reduceUMod, BitVec.reduceAnd, BitVec.reduceOr, BitVec.reduceXOr, BitVec.reduceNot, BitVec.reduceNeg, BitVec.reduceHShiftLeft, BitVec.reduceHShiftRight, Nat.reduceAdd, Nat.reduceMul, Nat.reduceSub, Nat.reduceBEq, Nat.reduceEqDiff, Nat.reduceLeDiff, Nat.reduceLT, Int.reduceLE, Int.reduceLT, Int.reduceAdd, Int.reduceSub, Int.reduceMul, Int.reduceNeg, Int.reduceToNat, Int.reduceEq, ↓reduceIte, reduceCtorEq, callI]))
    repeat' (first
      | (refine cnd_by (fun h => ?_) (fun h => ?_) <;> (try simp only [decide_eq_true_eq, decide_eq_false_iff_not, Bool.not_eq_true', Bool.not_eq_false', Bool.not_eq_true, Bool.not_eq_false, Bool.and_eq_true, beq_iff_eq, beq_eq_false_iff_ne, ne_eq, Bool.or_eq_true] at h) <;> ((try simp (config := { maxSteps := 10000000 }) only [go_sem, List.reduceReplicate, BitVec.reduceOfInt, BitVec.reduceToNat, BitVec.reduceToInt, BitVec.reduceEq, BitVec.reduceLT, BitVec.reduceLE, BitVec.reduceAdd, BitVec.reduceSub, BitVec.reduceMul, BitVec.reduceUDiv, BitVec.reduceUMod, BitVec.reduceAnd, BitVec.reduceOr, BitVec.reduceXOr, BitVec.reduceNot, BitVec.reduceNeg, BitVec.reduceHShiftLeft, BitVec.reduceHShiftRight, Nat.reduceAdd, Nat.reduceMul, Nat.reduceSub, Nat.reduceBEq, Nat.reduceEqDiff, Nat.reduceLeDiff, Nat.reduceLT, Int.reduceLE, Int.reduceLT, Int.reduceAdd, Int.reduceSub, Int.reduceMul, Int.reduceNeg, Int.reduceToNat, Int.reduceEq, ↓reduceIte, reduceCtorEq, h]; repeat (simp (disch := omega) only [w64_d, ipos, ineg, dpos, dneg]; try simp (config := { maxSteps := 10000000 }) only [go_sem, List.reduceReplicate, BitVec.reduceOfInt, BitVec.reduceToNat, BitVec.reduceToInt, BitVec.reduceEq, BitVec.reduceLT, BitVec.reduceLE, BitVec.reduceAdd, BitVec.reduceSub, BitVec.reduceMul, BitVec.reduceUDiv, BitVec.reduceUMod, BitVec.reduceAnd, BitVec.reduceOr, BitVec.reduceXOr, BitVec.reduceNot, BitVec.reduceNeg, BitVec.reduceHShiftLeft, BitVec.reduceHShiftRight, Nat.reduceAdd, Nat.reduceMul, Nat.reduceSub, Nat.reduceBEq, Nat.reduceEqDiff, Nat.reduceLeDiff, Nat.reduceLT, Int.reduceLE, Int.reduceLT, Int.reduceAdd, Int.reduceSub, Int.reduceMul, Int.reduceNeg, Int.reduceToNat, Int.reduceEq, ↓reduceIte, reduceCtorEq, h]))))
      | (refine grd_by (fun h => ?_) (fun h => ?_) <;> (try simp only [decide_eq_true_eq, decide_eq_false_iff_not, Bool.not_eq_true', Bool.not_eq_false', Bool.not_eq_true, Bool.not_eq_false, Bool.and_eq_true, beq_iff_eq, beq_eq_false_iff_ne, ne_eq, Bool.or_eq_true] at h) <;> ((try simp (config := { maxSteps := 10000000 }) only [go_sem, List.reduceReplicate, BitVec.reduceOfInt, BitVec.reduceToNat, BitVec.reduceToInt, BitVec.reduceEq, BitVec.reduceLT, BitVec.reduceLE, BitVec.reduceAdd, BitVec.reduceSub, BitVec.reduceMul, BitVec.reduceUDiv, BitVec.reduceUMod, BitVec.reduceAnd, BitVec.reduceOr, BitVec.reduceXOr, BitVec.reduceNot, BitVec.reduceNeg, BitVec.reduceHShiftLeft, BitVec.reduceHShiftRight, Nat.reduceAdd, Nat.reduceMul, Nat.reduceSub, Nat.reduceBEq, Nat.reduceEqDiff, Nat.reduceLeDiff, Nat.reduceLT, Int.reduceLE, Int.reduceLT, Int.reduceAdd, Int.reduceSub, Int.reduceMul, Int.reduceNeg, Int.reduceToNat, Int.reduceEq, ↓reduceIte, reduceCtorEq, h]; repeat (simp (disch := omega) only [w64_d, ipos, ineg, dpos, dneg]; try simp (config := { maxSteps := 10000000 }) only [go_sem, List.reduceReplicate, BitVec.reduceOfInt, BitVec.reduceToNat, BitVec.reduceToInt, BitVec.reduceEq, BitVec.reduceLT, BitVec.reduceLE, BitVec.reduceAdd, BitVec.reduceSub, BitVec.reduceMul, BitVec.reduceUDiv, BitVec.reduceUMod, BitVec.reduceAnd, BitVec.reduceOr, BitVec.reduceXOr, BitVec.reduceNot, BitVec.reduceNeg, BitVec.reduceHShiftLeft, BitVec.reduceHShiftRight, Nat.reduceAdd, Nat.reduceMul, Nat.reduceSub, Nat.reduceBEq, Nat.reduceEqDiff, Nat.reduceLeDiff, Nat.reduceLT, Int.reduceLE, Int.reduceLT, Int.reduceAdd, Int.reduceSub, Int.reduceMul, Int.reduceNeg, Int.reduceToNat, Int.reduceEq, ↓reduceIte, reduceCtorEq, h]))))
      | (refine grdd_by (fun h => ?_) (fun h => ?_) <;> (try simp only [decide_eq_true_eq, decide_eq_false_iff_not, Bool.not_eq_true', Bool.not_eq_false', Bool.not_eq_true, Bool.not_eq_false, Bool.and_eq_true, beq_iff_eq, beq_eq_false_iff_ne, ne_eq, Bool.or_eq_true] at h) <;> ((try simp (config := { maxSteps := 10000000 }) only [go_sem, List.reduceReplicate, BitVec.reduceOfInt, BitVec.reduceToNat, BitVec.reduceToInt, BitVec.reduceEq, BitVec.reduceLT, BitVec.reduceLE, BitVec.reduceAdd, BitVec.reduceSub, BitVec.reduceMul, BitVec.reduceUDiv, BitVec.reduceUMod, BitVec.reduceAnd, BitVec.reduceOr, BitVec.reduceXOr, BitVec.reduceNot, BitVec.reduceNeg, BitVec.reduceHShiftLeft, BitVec.reduceHShiftRight, Nat.reduceAdd, Nat.reduceMul, Nat.reduceSub, Nat.reduceBEq, Nat.reduceEqDiff, Nat.reduceLeDiff, Nat.reduceLT, Int.reduceLE, Int.reduceLT, Int.reduceAdd, Int.reduceSub, Int.reduceMul, Int.reduceNeg, Int.reduceToNat, Int.reduceEq, ↓reduceIte, reduceCtorEq, h]; repeat (simp (disch := omega) only [w64_d, ipos, ineg, dpos, dneg]; try simp (config := { maxSteps := 10000000 }) only [go_sem, List.reduceReplicate, BitVec.reduceOfInt, BitVec.reduceToNat, BitVec.reduceToInt, BitVec.reduceEq, BitVec.reduceLT, BitVec.reduceLE, BitVec.reduceAdd, BitVec.reduceSub, BitVec.reduceMul, BitVec.reduceUDiv, BitVec.reduceUMod, BitVec.reduceAnd, BitVec.reduceOr, BitVec.reduceXOr, BitVec.reduceNot, BitVec.reduceNeg, BitVec.reduceHShiftLeft, BitVec.reduceHShiftRight, Nat.reduceAdd, Nat.reduceMul, Nat.reduceSub, Nat.reduceBEq, Nat.reduceEqDiff, Nat.reduceLeDiff, Nat.reduceLT, Int.reduceLE, Int.reduceLT, Int.reduceAdd, Int.reduceSub, Int.reduceMul, Int.reduceNeg, Int.reduceToNat, Int.reduceEq, ↓reduceIte, reduceCtorEq, h])))))
    all_goals simp [*]
  · simp at h
def jumpL (op rd : Int) (to link : BitVec 64) : List Sc := if to &&& 3#64 = 0#64 then (if classI op = 3 then plainL rd link to else plainL 0 0#64 to) else trapL 0 to
theorem jumpL_eff (op rd : Int) (to link : BitVec 64) : isEff (jumpL op rd to link) := by
  unfold jumpL
  repeat' split
  all_goals exact isEff_mk
def s_xjump (args : List AV) : Option AV :=
  match args with
  | [.g [.i op, .i rd, .i r1, .i r2, .i im, .i cs, .b aq, .b rl], .c (.u to), .c (.u link)] => some (.g (jumpL op rd to link))
  | _ => none
theorem s_xjump_eq {op rd r1 r2 im cs aq rl to link} : s_xjump [.g [.i op, .i rd, .i r1, .i r2, .i im, .i cs, .b aq, .b rl], .c (.u to), .c (.u link)] = some (.g (jumpL op rd to link)) := rfl
set_option maxRecDepth 100000 in
set_option maxHeartbeats 2000000 in
theorem ok_xjump : PuOk Try.prog 51 s_xjump := by
  refine pu_ok (tab := [(53, .pu s_xalign), (30, .pu s_xtrap), (12, .pu s_class)]) hmix (TabOk.cons (e := .pu s_xalign) ok_xalign (TabOk.cons (e := .pu s_xtrap) ok_xtrap (TabOk.cons (e := .pu s_class) ok_class TabOk.nil))) Try.func51 rfl Try.results51 Try.ntmps51 (by kernel_rfl) (by kernel_rfl) ?_
  intro args v h
  unfold s_xjump at h
  split at h
  · rename_i op rd r1 r2 im cs aq rl to link
    simp only [Option.some.injEq] at h; subst h
    have pz := (isEff_len (jumpL_eff op rd to link)).2.2.1
    refine ⟨by simp only [List.length_cons, List.length_nil]; decide, by first | rfl | simp only [List.all_cons, List.all_nil, AV.pf, Sc.pf, Bool.and_true, *], by first | rfl | simp only [List.all_cons, List.all_nil, AV.pf, Sc.pf, Bool.and_true, *], ?_⟩
    by_cases h : to &&& 3#64 = 0#64
    · by_cases h3 : classI op = 3
      · (try simp (config := { maxSteps := 10000000 }) only [go_sem, List.reduceReplicate, BitVec.reduceOfInt, BitVec.reduceToNat, BitVec.reduceToInt, BitVec.reduceEq, BitVec.reduceLT, BitVec.reduceLE, BitVec.reduceAdd, BitVec.reduceSub, BitVec.reduceMul, BitVec.reduceUDiv, BitVec.reduceUMod, BitVec.reduceAnd, BitVec.reduceOr, BitVec.reduceXOr, BitVec.reduceNot, BitVec.reduceNeg, BitVec.reduceHShiftLeft, BitVec.reduceHShiftRight, Nat.reduceAdd, Nat.reduceMul, Nat.reduceSub, Nat.reduceBEq, Nat.reduceEqDiff, Nat.reduceLeDiff, Nat.reduceLT, Int.reduceLE, Int.reduceLT, Int.reduceAdd, Int.reduceSub, Int.reduceMul, Int.reduceNeg, Int.reduceToNat, Int.reduceEq, ↓reduceIte, reduceCtorEq, s_xalign_eq, s_xtrap_eq, s_class_eq, h, h3, jumpL, plainL, effL]; repeat (simp (disch := omega) only [w64_d, ipos, ineg, dpos, dneg]; try simp (config := { maxSteps := 10000000 }) only [go_sem, List.reduceReplicate, BitVec.reduceOfInt, BitVec.reduceToNat, BitVec.reduceToInt, BitVec.reduceEq, BitVec.reduceLT, BitVec.reduceLE, BitVec.reduceAdd, BitVec.reduceSub, BitVec.reduceMul, BitVec.reduceUDiv, BitVec.reduceUMod, BitVec.reduceAnd, BitVec.reduceOr, BitVec.reduceXOr, BitVec.reduceNot, BitVec.reduceNeg, BitVec.reduceHShiftLeft, BitVec.reduceHShiftRight, Nat.reduceAdd, Nat.reduceMul, Nat.reduceSub, Nat.reduceBEq, Nat.reduceEqDiff, Nat.reduceLeDiff, Nat.reduceLT, Int.reduceLE, Int.reduceLT, Int.reduceAdd, Int.reduceSub, Int.reduceMul, Int.reduceNeg, Int.reduceToNat, Int.reduceEq, ↓reduceIte, reduceCtorEq, s_xalign_eq, s_xtrap_eq, s_class_eq, h, h3, jumpL, plainL, effL]))
      · (try simp (config := { maxSteps := 10000000 }) only [go_sem, List.reduceReplicate, BitVec.reduceOfInt, BitVec.reduceToNat, BitVec.reduceToInt, BitVec.reduceEq, BitVec.reduceLT, BitVec.reduceLE, BitVec.reduceAdd, BitVec.reduceSub, BitVec.reduceMul, BitVec.reduceUDiv, BitVec.reduceUMod, BitVec.reduceAnd, BitVec.reduceOr, BitVec.reduceXOr, BitVec.reduceNot, BitVec.reduceNeg, BitVec.reduceHShiftLeft, BitVec.reduceHShiftRight, Nat.reduceAdd, Nat.reduceMul, Nat.reduceSub, Nat.reduceBEq, Nat.reduceEqDiff, Nat.reduceLeDiff, Nat.reduceLT, Int.reduceLE, Int.reduceLT, Int.reduceAdd, Int.reduceSub, Int.reduceMul, Int.reduceNeg, Int.reduceToNat, Int.reduceEq, ↓reduceIte, reduceCtorEq, s_xalign_eq, s_xtrap_eq, s_class_eq, h, h3, jumpL, plainL, effL]; repeat (simp (disch := omega) only [w64_d, ipos, ineg, dpos, dneg]; try simp (config := { maxSteps := 10000000 }) only [go_sem, List.reduceReplicate, BitVec.reduceOfInt, BitVec.reduceToNat, BitVec.reduceToInt, BitVec.reduceEq, BitVec.reduceLT, BitVec.reduceLE, BitVec.reduceAdd, BitVec.reduceSub, BitVec.reduceMul, BitVec.reduceUDiv, BitVec.reduceUMod, BitVec.reduceAnd, BitVec.reduceOr, BitVec.reduceXOr, BitVec.reduceNot, BitVec.reduceNeg, BitVec.reduceHShiftLeft, BitVec.reduceHShiftRight, Nat.reduceAdd, Nat.reduceMul, Nat.reduceSub, Nat.reduceBEq, Nat.reduceEqDiff, Nat.reduceLeDiff, Nat.reduceLT, Int.reduceLE, Int.reduceLT, Int.reduceAdd, Int.reduceSub, Int.reduceMul, Int.reduceNeg, Int.reduceToNat, Int.reduceEq, ↓reduceIte, reduceCtorEq, s_xalign_eq, s_xtrap_eq, s_class_eq, h, h3, jumpL, plainL, effL]))
    · (try simp (config := { maxSteps := 10000000 }) only [go_sem, List.reduceReplicate, BitVec.reduceOfInt, BitVec.reduceToNat, BitVec.reduceToInt, BitVec.reduceEq, BitVec.reduceLT, BitVec.reduceLE, BitVec.reduceAdd, BitVec.reduceSub, BitVec.reduceMul, BitVec.reduceUDiv, BitVec.reduceUMod, BitVec.reduceAnd, BitVec.reduceOr, BitVec.reduceXOr, BitVec.reduceNot, BitVec.reduceNeg, BitVec.reduceHShiftLeft, BitVec.reduceHShiftRight, Nat.reduceAdd, Nat.reduceMul, Nat.reduceSub, Nat.reduceBEq, Nat.reduceEqDiff, Nat.reduceLeDiff, Nat.reduceLT, Int.reduceLE, Int.reduceLT, Int.reduceAdd, Int.reduceSub, Int.reduceMul, Int.reduceNeg, Int.reduceToNat, Int.reduceEq, ↓reduceIte, reduceCtorEq, s_xalign_eq, s_xtrap_eq, s_class_eq, h, jumpL, trapL, effL]; repeat (simp (disch := omega) only [w64_d, ipos, ineg, dpos, dneg]; try simp (config := { maxSteps := 10000000 }) only [go_sem, List.reduceReplicate, BitVec.reduceOfInt, BitVec.reduceToNat, BitVec.reduceToInt, BitVec.reduceEq, BitVec.reduceLT, BitVec.reduceLE, BitVec.reduceAdd, BitVec.reduceSub, BitVec.reduceMul, BitVec.reduceUDiv, BitVec.reduceUMod, BitVec.reduceAnd, BitVec.reduceOr, BitVec.reduceXOr, BitVec.reduceNot, BitVec.reduceNeg, BitVec.reduceHShiftLeft, BitVec.reduceHShiftRight, Nat.reduceAdd, Nat.reduceMul, Nat.reduceSub, Nat.reduceBEq, Nat.reduceEqDiff, Nat.reduceLeDiff, Nat.reduceLT, Int.reduceLE, Int.reduceLT, Int.reduceAdd, Int.reduceSub, Int.reduceMul, Int.reduceNeg, Int.reduceToNat, Int.reduceEq, ↓reduceIte, reduceCtorEq, s_xalign_eq, s_xtrap_eq, s_class_eq, h, jumpL, trapL, effL]))
  · simp at h
def flowL (op rd im : Int) (pc a b : BitVec 64) : List Sc := if tkB op = true ∧ tkU op a b = false then plainL 0 0#64 (pc + 4#64) else jumpL op rd (tgU op pc a im) (pc + 4#64)
theorem flowL_eff (op rd im : Int) (pc a b : BitVec 64) : isEff (flowL op rd im pc a b) := by unfold flowL; split; exact isEff_mk; exact jumpL_eff _ _ _ _
def s_xflow (args : List AV) : Option AV :=
  match args with
  | [.g [.i op, .i rd, .i r1, .i r2, .i im, .i cs, .b aq, .b rl], .c (.u pc), .c (.u a), .c (.u b)] => some (.g (flowL op rd im pc a b))
  | _ => none
theorem s_xflow_eq {op rd r1 r2 im cs aq rl pc a b} : s_xflow [.g [.i op, .i rd, .i r1, .i r2, .i im, .i cs, .b aq, .b rl], .c (.u pc), .c (.u a), .c (.u b)] = some (.g (flowL op rd im pc a b)) := rfl
set_option maxRecDepth 100000 in
set_option maxHeartbeats 2000000 in
theorem ok_xflow : PuOk Try.prog 28 s_xflow := by
  refine pu_ok (tab := [(49, .pu s_taken), (50, .pu s_target), (51, .pu s_xjump)]) hmix (TabOk.cons (e := .pu s_taken) ok_taken (TabOk.cons (e := .pu s_target) ok_target (TabOk.cons (e := .pu s_xjump) ok_xjump TabOk.nil))) Try.func28 rfl Try.results28 Try.ntmps28 (by kernel_rfl) (by kernel_rfl) ?_
  intro args v h
  unfold s_xflow at h
  split at h
  · rename_i op rd r1 r2 im cs aq rl pc a b
    simp only [Option.some.injEq] at h; subst h
    have pz := (isEff_len (flowL_eff op rd im pc a b)).2.2.1
    refine ⟨by simp only [List.length_cons, List.length_nil]; decide, by first | rfl | simp only [List.all_cons, List.all_nil, AV.pf, Sc.pf, Bool.and_true, *], by first | rfl | simp only [List.all_cons, List.all_nil, AV.pf, Sc.pf, Bool.and_true, *], ?_⟩
    obtain ⟨z1, z2, z3, z4⟩ := isEff_len (jumpL_eff op rd (tgU op pc a im) (pc + 4#64))
    have tk : (jumpL op rd (tgU op pc a im) (pc + 4#64)).take 12 = jumpL op rd (tgU op pc a im) (pc + 4#64) := by rw [← z1, List.take_length]
    cases h : tkB op
    · (try simp (config := { maxSteps := 10000000 }) only [go_sem, List.reduceReplicate, BitVec.reduceOfInt, BitVec.reduceToNat, BitVec.reduceToInt, BitVec.reduceEq, BitVec.reduceLT, BitVec.reduceLE, BitVec.reduceAdd, BitVec.reduceSub, BitVec.reduceMul, BitVec.reduceUDiv, BitVec.reduceUMod, BitVec.reduceAnd, BitVec.reduceOr, BitVec.reduceXOr, BitVec.reduceNot, BitVec.reduceNeg, BitVec.reduceHShiftLeft, BitVec.reduceHShiftRight, Nat.reduceAdd, Nat.reduceMul, Nat.reduceSub, Nat.reduceBEq, Nat.reduceEqDiff, Nat.reduceLeDiff, Nat.reduceLT, Int.reduceLE, Int.reduceLT, Int.reduceAdd, Int.reduceSub, Int.reduceMul, Int.reduceNeg, Int.reduceToNat, Int.reduceEq, ↓reduceIte, reduceCtorEq, s_taken_eq, s_target_eq, s_xjump_eq, h, flowL, z1, z2, tk, false_and, if_false]; repeat (simp (disch := omega) only [w64_d, ipos, ineg, dpos, dneg]; try simp (config := { maxSteps := 10000000 }) only [go_sem, List.reduceReplicate, BitVec.reduceOfInt, BitVec.reduceToNat, BitVec.reduceToInt, BitVec.reduceEq, BitVec.reduceLT, BitVec.reduceLE, BitVec.reduceAdd, BitVec.reduceSub, BitVec.reduceMul, BitVec.reduceUDiv, BitVec.reduceUMod, BitVec.reduceAnd, BitVec.reduceOr, BitVec.reduceXOr, BitVec.reduceNot, BitVec.reduceNeg, BitVec.reduceHShiftLeft, BitVec.reduceHShiftRight, Nat.reduceAdd, Nat.reduceMul, Nat.reduceSub, Nat.reduceBEq, Nat.reduceEqDiff, Nat.reduceLeDiff, Nat.reduceLT, Int.reduceLE, Int.reduceLT, Int.reduceAdd, Int.reduceSub, Int.reduceMul, Int.reduceNeg, Int.reduceToNat, Int.reduceEq, ↓reduceIte, reduceCtorEq, s_taken_eq, s_target_eq, s_xjump_eq, h, flowL, z1, z2, tk, false_and, if_false]))
    · cases h2 : tkU op a b
      · (try simp (config := { maxSteps := 10000000 }) only [go_sem, List.reduceReplicate, BitVec.reduceOfInt, BitVec.reduceToNat, BitVec.reduceToInt, BitVec.reduceEq, BitVec.reduceLT, BitVec.reduceLE, BitVec.reduceAdd, BitVec.reduceSub, BitVec.reduceMul, BitVec.reduceUDiv, BitVec.reduceUMod, BitVec.reduceAnd, BitVec.reduceOr, BitVec.reduceXOr, BitVec.reduceNot, BitVec.reduceNeg, BitVec.reduceHShiftLeft, BitVec.reduceHShiftRight, Nat.reduceAdd, Nat.reduceMul, Nat.reduceSub, Nat.reduceBEq, Nat.reduceEqDiff, Nat.reduceLeDiff, Nat.reduceLT, Int.reduceLE, Int.reduceLT, Int.reduceAdd, Int.reduceSub, Int.reduceMul, Int.reduceNeg, Int.reduceToNat, Int.reduceEq, ↓reduceIte, reduceCtorEq, s_taken_eq, s_target_eq, s_xjump_eq, h, h2, flowL, plainL, effL]; repeat (simp (disch := omega) only [w64_d, ipos, ineg, dpos, dneg]; try simp (config := { maxSteps := 10000000 }) only [go_sem, List.reduceReplicate, BitVec.reduceOfInt, BitVec.reduceToNat, BitVec.reduceToInt, BitVec.reduceEq, BitVec.reduceLT, BitVec.reduceLE, BitVec.reduceAdd, BitVec.reduceSub, BitVec.reduceMul, BitVec.reduceUDiv, BitVec.reduceUMod, BitVec.reduceAnd, BitVec.reduceOr, BitVec.reduceXOr, BitVec.reduceNot, BitVec.reduceNeg, BitVec.reduceHShiftLeft, BitVec.reduceHShiftRight, Nat.reduceAdd, Nat.reduceMul, Nat.reduceSub, Nat.reduceBEq, Nat.reduceEqDiff, Nat.reduceLeDiff, Nat.reduceLT, Int.reduceLE, Int.reduceLT, Int.reduceAdd, Int.reduceSub, Int.reduceMul, Int.reduceNeg, Int.reduceToNat, Int.reduceEq, ↓reduceIte, reduceCtorEq, s_taken_eq, s_target_eq, s_xjump_eq, h, h2, flowL, plainL, effL]))
      · (try simp (config := { maxSteps := 10000000 }) only [go_sem, List.reduceReplicate, BitVec.reduceOfInt, BitVec.reduceToNat, BitVec.reduceToInt, BitVec.reduceEq, BitVec.reduceLT, BitVec.reduceLE, BitVec.reduceAdd, BitVec.reduceSub, BitVec.reduceMul, BitVec.reduceUDiv, BitVec.reduceUMod, BitVec.reduceAnd, BitVec.reduceOr, BitVec.reduceXOr, BitVec.reduceNot, BitVec.reduceNeg, BitVec.reduceHShiftLeft, BitVec.reduceHShiftRight, Nat.reduceAdd, Nat.reduceMul, Nat.reduceSub, Nat.reduceBEq, Nat.reduceEqDiff, Nat.reduceLeDiff, Nat.reduceLT, Int.reduceLE, Int.reduceLT, Int.reduceAdd, Int.reduceSub, Int.reduceMul, Int.reduceNeg, Int.reduceToNat, Int.reduceEq, ↓reduceIte, reduceCtorEq, s_taken_eq, s_target_eq, s_xjump_eq, h, h2, flowL, z1, z2, tk]; repeat (simp (disch := omega) only [w64_d, ipos, ineg, dpos, dneg]; try simp (config := { maxSteps := 10000000 }) only [go_sem, List.reduceReplicate, BitVec.reduceOfInt, BitVec.reduceToNat, BitVec.reduceToInt, BitVec.reduceEq, BitVec.reduceLT, BitVec.reduceLE, BitVec.reduceAdd, BitVec.reduceSub, BitVec.reduceMul, BitVec.reduceUDiv, BitVec.reduceUMod, BitVec.reduceAnd, BitVec.reduceOr, BitVec.reduceXOr, BitVec.reduceNot, BitVec.reduceNeg, BitVec.reduceHShiftLeft, BitVec.reduceHShiftRight, Nat.reduceAdd, Nat.reduceMul, Nat.reduceSub, Nat.reduceBEq, Nat.reduceEqDiff, Nat.reduceLeDiff, Nat.reduceLT, Int.reduceLE, Int.reduceLT, Int.reduceAdd, Int.reduceSub, Int.reduceMul, Int.reduceNeg, Int.reduceToNat, Int.reduceEq, ↓reduceIte, reduceCtorEq, s_taken_eq, s_target_eq, s_xjump_eq, h, h2, flowL, z1, z2, tk]))
  · simp at h
def atomL (op rd : Int) (pc a b : BitVec 64) : List Sc :=
  if a % BitVec.ofInt 64 (sizeI op) = 0#64 then
    (if linkB op = true then effL 3 rd 0#64 (pc + 4#64) 0 0#64 1 5 a (sizeI op) 0#64 else effL 3 rd 0#64 (pc + 4#64) 0 0#64 2 (if condB op = true then 6 else 4) a (sizeI op) (lowU b (8 * sizeI op)))
  else trapL (if linkB op = true then 4 else 6) a
theorem atomL_eff (op rd : Int) (pc a b : BitVec 64) : isEff (atomL op rd pc a b) := by
  unfold atomL
  repeat' split
  all_goals exact isEff_mk
theorem link_cond (op : Int) (h : linkB op = true) : condB op = false := by
  unfold linkB at h; unfold condB
  repeat' split at h
  all_goals first | (simp at h; done) | skip
  all_goals repeat' split
  all_goals first | rfl | omega
def s_xatomic (args : List AV) : Option AV :=
  match args with
  | [.g [.i op, .i rd, .i r1, .i r2, .i im, .i cs, .b aq, .b rl], .c (.u pc), .c (.u a), .c (.u b)] => if classI op = 7 then some (.g (atomL op rd pc a b)) else none
  | _ => none
theorem s_xatomic_eq {op rd r1 r2 im cs aq rl pc a b} : s_xatomic [.g [.i op, .i rd, .i r1, .i r2, .i im, .i cs, .b aq, .b rl], .c (.u pc), .c (.u a), .c (.u b)] = if classI op = 7 then some (.g (atomL op rd pc a b)) else none := rfl
set_option maxRecDepth 100000 in
set_option maxHeartbeats 2000000 in
theorem ok_xatomic : PuOk Try.prog 29 s_xatomic := by
  refine pu_ok (tab := [(15, .pu s_ksize), (52, .pu s_alink), (17, .pu s_acond), (53, .pu s_xalign), (30, .pu s_xtrap), (16, .pu s_low)]) hmix (TabOk.cons (e := .pu s_ksize) ok_ksize (TabOk.cons (e := .pu s_alink) ok_alink (TabOk.cons (e := .pu s_acond) ok_acond (TabOk.cons (e := .pu s_xalign) ok_xalign (TabOk.cons (e := .pu s_xtrap) ok_xtrap (TabOk.cons (e := .pu s_low) ok_low TabOk.nil)))))) Try.func29 rfl Try.results29 Try.ntmps29 (by kernel_rfl) (by kernel_rfl) ?_
  intro args v h
  unfold s_xatomic at h
  split at h
  · rename_i op rd r1 r2 im cs aq rl pc a b
    split at h
    · rename_i hc
      simp only [Option.some.injEq] at h; subst h
      have pz := (isEff_len (atomL_eff op rd pc a b)).2.2.1
      refine ⟨by simp only [List.length_cons, List.length_nil]; decide, by first | rfl | simp only [List.all_cons, List.all_nil, AV.pf, Sc.pf, Bool.and_true, *], by first | rfl | simp only [List.all_cons, List.all_nil, AV.pf, Sc.pf, Bool.and_true, *], ?_⟩
      obtain ⟨e1, i1⟩ := size_w op
      have hp := size_p hc
      have hb := size_b op
      have nz : (BitVec.ofInt 64 (sizeI op) = 0#64) = False := by
        refine eq_false fun h => ?_
        have := congrArg BitVec.toInt h
        rw [BitVec.toInt_ofInt] at this
        have e : (sizeI op).bmod (2 ^ 64) = sizeI op := Int.bmod_eq_of_le (by omega) (by omega)
        rw [e] at this
        have : sizeI op = 0 := this
        omega
      cases h1 : linkB op
      · cases h2 : condB op
        all_goals by_cases h3 : a % BitVec.ofInt 64 (sizeI op) = 0#64
        all_goals (try simp (config := { maxSteps := 10000000 }) only [go_sem, List.reduceReplicate, BitVec.reduceOfInt, BitVec.reduceToNat, BitVec.reduceToInt, BitVec.reduceEq, BitVec.reduceLT, BitVec.reduceLE, BitVec.reduceAdd, BitVec.reduceSub, BitVec.reduceMul, BitVec.reduceUDiv, BitVec.reduceUMod, BitVec.reduceAnd, BitVec.reduceOr, BitVec.reduceXOr, BitVec.reduceNot, BitVec.reduceNeg, BitVec.reduceHShiftLeft, BitVec.reduceHShiftRight, Nat.reduceAdd, Nat.reduceMul, Nat.reduceSub, Nat.reduceBEq, Nat.reduceEqDiff, Nat.reduceLeDiff, Nat.reduceLT, Int.reduceLE, Int.reduceLT, Int.reduceAdd, Int.reduceSub, Int.reduceMul, Int.reduceNeg, Int.reduceToNat, Int.reduceEq, ↓reduceIte, reduceCtorEq, s_ksize_eq, s_alink_eq, s_acond_eq, s_xalign_eq, s_xtrap_eq, s_low_eq, h1, h2, h3, nz, e1, i1, atomL, trapL, effL]; repeat (simp (disch := omega) only [w64_d, ipos, ineg, dpos, dneg]; try simp (config := { maxSteps := 10000000 }) only [go_sem, List.reduceReplicate, BitVec.reduceOfInt, BitVec.reduceToNat, BitVec.reduceToInt, BitVec.reduceEq, BitVec.reduceLT, BitVec.reduceLE, BitVec.reduceAdd, BitVec.reduceSub, BitVec.reduceMul, BitVec.reduceUDiv, BitVec.reduceUMod, BitVec.reduceAnd, BitVec.reduceOr, BitVec.reduceXOr, BitVec.reduceNot, BitVec.reduceNeg, BitVec.reduceHShiftLeft, BitVec.reduceHShiftRight, Nat.reduceAdd, Nat.reduceMul, Nat.reduceSub, Nat.reduceBEq, Nat.reduceEqDiff, Nat.reduceLeDiff, Nat.reduceLT, Int.reduceLE, Int.reduceLT, Int.reduceAdd, Int.reduceSub, Int.reduceMul, Int.reduceNeg, Int.reduceToNat, Int.reduceEq, ↓reduceIte, reduceCtorEq, s_ksize_eq, s_alink_eq, s_acond_eq, s_xalign_eq, s_xtrap_eq, s_low_eq, h1, h2, h3, nz, e1, i1, atomL, trapL, effL]))
      · have h2 := link_cond op h1
        by_cases h3 : a % BitVec.ofInt 64 (sizeI op) = 0#64
        all_goals (try simp (config := { maxSteps := 10000000 }) only [go_sem, List.reduceReplicate, BitVec.reduceOfInt, BitVec.reduceToNat, BitVec.reduceToInt, BitVec.reduceEq, BitVec.reduceLT, BitVec.reduceLE, BitVec.reduceAdd, BitVec.reduceSub, BitVec.reduceMul, BitVec.reduceUDiv, BitVec.reduceUMod, BitVec.reduceAnd, BitVec.reduceOr, BitVec.reduceXOr, BitVec.reduceNot, BitVec.reduceNeg, BitVec.reduceHShiftLeft, BitVec.reduceHShiftRight, Nat.reduceAdd, Nat.reduceMul, Nat.reduceSub, Nat.reduceBEq, Nat.reduceEqDiff, Nat.reduceLeDiff, Nat.reduceLT, Int.reduceLE, Int.reduceLT, Int.reduceAdd, Int.reduceSub, Int.reduceMul, Int.reduceNeg, Int.reduceToNat, Int.reduceEq, ↓reduceIte, reduceCtorEq, s_ksize_eq, s_alink_eq, s_acond_eq, s_xalign_eq, s_xtrap_eq, s_low_eq, h1, h2, h3, nz, e1, i1, atomL, trapL, effL]; repeat (simp (disch := omega) only [w64_d, ipos, ineg, dpos, dneg]; try simp (config := { maxSteps := 10000000 }) only [go_sem, List.reduceReplicate, BitVec.reduceOfInt, BitVec.reduceToNat, BitVec.reduceToInt, BitVec.reduceEq, BitVec.reduceLT, BitVec.reduceLE, BitVec.reduceAdd, BitVec.reduceSub, BitVec.reduceMul, BitVec.reduceUDiv, BitVec.reduceUMod, BitVec.reduceAnd, BitVec.reduceOr, BitVec.reduceXOr, BitVec.reduceNot, BitVec.reduceNeg, BitVec.reduceHShiftLeft, BitVec.reduceHShiftRight, Nat.reduceAdd, Nat.reduceMul, Nat.reduceSub, Nat.reduceBEq, Nat.reduceEqDiff, Nat.reduceLeDiff, Nat.reduceLT, Int.reduceLE, Int.reduceLT, Int.reduceAdd, Int.reduceSub, Int.reduceMul, Int.reduceNeg, Int.reduceToNat, Int.reduceEq, ↓reduceIte, reduceCtorEq, s_ksize_eq, s_alink_eq, s_acond_eq, s_xalign_eq, s_xtrap_eq, s_low_eq, h1, h2, h3, nz, e1, i1, atomL, trapL, effL]))
    · simp at h
  · simp at h

end
end Go.Proofs.Ytjlbgjhnhhihoaa
