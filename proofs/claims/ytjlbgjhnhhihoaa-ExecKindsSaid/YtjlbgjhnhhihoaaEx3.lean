/- Layer 30: what an instruction does: the contract; the law of what lands. -/
import Derived.Test.YtjlbgjhnhhihoaaEx2
namespace Go.Proofs.Ytjlbgjhnhhihoaa
open Go.Am
set_option linter.unusedSimpArgs false
set_option linter.unusedVariables false
noncomputable section

def doL (op rd im : Int) (pc a b : BitVec 64) (pr : Int) : List Sc :=
  if classI op = 1 then plainL rd (adoU op a (if numB op = true then BitVec.ofInt 64 im else b)) (pc + 4#64) else
  if classI op = 2 then plainL rd (upU op pc im) (pc + 4#64) else
  if classI op = 4 then flowL op rd im pc a b else
  if classI op = 3 then flowL op rd im pc a b else
  if classI op = 5 then effL 3 rd 0#64 (pc + 4#64) 0 0#64 1 2 (a + BitVec.ofInt 64 im) (sizeI op) 0#64 else
  if classI op = 6 then effL 3 0 0#64 (pc + 4#64) 0 0#64 2 3 (a + BitVec.ofInt 64 im) (sizeI op) (lowU b (8 * sizeI op)) else
  if classI op = 7 then atomL op rd pc a b else
  if classI op = 9 then plainL 0 0#64 (pc + 4#64) else
  if op = 52 then trapL (callI pr) 0#64 else if op = 53 then trapL 3 pc else effL 0 0 0#64 0#64 0 0#64 0 0 0#64 0 0#64
theorem doL_eff (op rd im : Int) (pc a b : BitVec 64) (pr : Int) : isEff (doL op rd im pc a b pr) := by
  unfold doL
  repeat' split
  all_goals first | exact isEff_mk | exact flowL_eff _ _ _ _ _ _ | exact atomL_eff _ _ _ _ _
def s_edo (args : List AV) (H : AH) : Option AV :=
  match args with
  | [.g [.i op, .i rd, .i r1, .i r2, .i im, .i cs, .b aq, .b rl], .c (.u pc), .c f, .c (.i pr)] => (rgOf H f).map fun g => .g (doL op rd im pc (g r1) (g r2) pr)
  | _ => none
theorem s_edo_eq {H : AH} {f : Sc} {op rd r1 r2 im cs : Int} {aq rl : Bool} {pc : BitVec 64} {pr : Int} : s_edo [.g [.i op, .i rd, .i r1, .i r2, .i im, .i cs, .b aq, .b rl], .c (.u pc), .c f, .c (.i pr)] H = (rgOf H f).map fun g => .g (doL op rd im pc (g r1) (g r2) pr) := rfl
set_option maxHeartbeats 4000000 in
set_option maxRecDepth 100000 in
set_option maxHeartbeats 2000000 in
theorem ok_edo : FpOk Try.prog 9 (fun args H => (s_edo args H).map fun v => (v, H)) := by
  refine fq_ok (s := s_edo) (tab := [(24, .fq s_rget), (12, .pu s_class), (25, .pu s_xnum), (26, .pu s_ado), (27, .pu s_up), (28, .pu s_xflow), (15, .pu s_ksize), (16, .pu s_low), (29, .pu s_xatomic), (31, .pu s_xcall), (30, .pu s_xtrap)]) hmix (TabOk.cons (e := .fq s_rget) ok_rget (TabOk.cons (e := .pu s_class) ok_class (TabOk.cons (e := .pu s_xnum) ok_xnum (TabOk.cons (e := .pu s_ado) ok_ado (TabOk.cons (e := .pu s_up) ok_up (TabOk.cons (e := .pu s_xflow) ok_xflow (TabOk.cons (e := .pu s_ksize) ok_ksize (TabOk.cons (e := .pu s_low) ok_low (TabOk.cons (e := .pu s_xatomic) ok_xatomic (TabOk.cons (e := .pu s_xcall) ok_xcall (TabOk.cons (e := .pu s_xtrap) ok_xtrap TabOk.nil))))))))))) Try.func9 rfl Try.results9 Try.ntmps9 (by kernel_rfl) (by kernel_rfl) ?_
  intro args H v h hargs hH
  unfold s_edo at h
  split at h
  · rename_i op rd r1 r2 im cs aq rl pc f pr
    rw [Option.map_eq_some_iff] at h
    obtain ⟨g, hg', rfl⟩ := h
    have bf : ∀ n, H.length ≤ n → (Sc.bel n f) = true := by
      intro n hn
      rcases rg_cases hg' with ⟨rfl, _⟩ | ⟨id, W, rfl, hcs, _, _⟩
      · rfl
      · have lid : id < H.length := by
          rcases Nat.lt_or_ge id H.length with h' | h'
          · exact h'
          · rw [hg_ge _ h'] at hcs; simp at hcs
        simp [Sc.bel]; omega
    have hgx := rg_app hg'
    have nl : (H.length + 1 = H.length) = False := eq_false (by omega)
    refine ⟨by simp only [List.length_cons, List.length_nil]; decide, (isEff_len (doL_eff op rd im pc (g r1) (g r2) pr)).2.2.2 _, ?_⟩
    obtain ⟨e1, i1⟩ := size_w op
    obtain ⟨z1, z2, z3, z4⟩ := isEff_len (flowL_eff op rd im pc (g r1) (g r2))
    obtain ⟨y1, y2, y3, y4⟩ := isEff_len (atomL_eff op rd pc (g r1) (g r2))
    have tz : (flowL op rd im pc (g r1) (g r2)).take 12 = flowL op rd im pc (g r1) (g r2) := by rw [← z1, List.take_length]
    have ty : (atomL op rd pc (g r1) (g r2)).take 12 = atomL op rd pc (g r1) (g r2) := by rw [← y1, List.take_length]
    by_cases h1 : classI op = 1
    · cases h : numB op
      all_goals (try simp (config := { maxSteps := 10000000 }) only [go_sem, List.reduceReplicate, BitVec.reduceOfInt, BitVec.reduceToNat, BitVec.reduceToInt, BitVec.reduceEq, BitVec.reduceLT, BitVec.reduceLE, BitVec.reduceAdd, BitVec.reduceSub, BitVec.reduceMul, BitVec.reduceUDiv, BitVec.reduceUMod, BitVec.reduceAnd, BitVec.reduceOr, BitVec.reduceXOr, BitVec.reduceNot, BitVec.reduceNeg, BitVec.reduceHShiftLeft, BitVec.reduceHShiftRight, Nat.reduceAdd, Nat.reduceMul, Nat.reduceSub, Nat.reduceBEq, Nat.reduceEqDiff, Nat.reduceLeDiff, Nat.reduceLT, Int.reduceLE, Int.reduceLT, Int.reduceAdd, Int.reduceSub, Int.reduceMul, Int.reduceNeg, Int.reduceToNat, Int.reduceEq, ↓reduceIte, reduceCtorEq, s_rget_eq, s_class_eq, s_xnum_eq, s_ado_eq, s_up_eq, s_xflow_eq, s_ksize_eq, s_low_eq, s_xatomic_eq, s_xcall_eq, s_xtrap_eq, hgx, h1, h, doL, plainL, effL]; repeat (simp (disch := omega) only [w64_d, ipos, ineg, dpos, dneg]; try simp (config := { maxSteps := 10000000 }) only [go_sem, List.reduceReplicate, BitVec.reduceOfInt, BitVec.reduceToNat, BitVec.reduceToInt, BitVec.reduceEq, BitVec.reduceLT, BitVec.reduceLE, BitVec.reduceAdd, BitVec.reduceSub, BitVec.reduceMul, BitVec.reduceUDiv, BitVec.reduceUMod, BitVec.reduceAnd, BitVec.reduceOr, BitVec.reduceXOr, BitVec.reduceNot, BitVec.reduceNeg, BitVec.reduceHShiftLeft, BitVec.reduceHShiftRight, Nat.reduceAdd, Nat.reduceMul, Nat.reduceSub, Nat.reduceBEq, Nat.reduceEqDiff, Nat.reduceLeDiff, Nat.reduceLT, Int.reduceLE, Int.reduceLT, Int.reduceAdd, Int.reduceSub, Int.reduceMul, Int.reduceNeg, Int.reduceToNat, Int.reduceEq, ↓reduceIte, reduceCtorEq, s_rget_eq, s_class_eq, s_xnum_eq, s_ado_eq, s_up_eq, s_xflow_eq, s_ksize_eq, s_low_eq, s_xatomic_eq, s_xcall_eq, s_xtrap_eq, hgx, h1, h, doL, plainL, effL]))
      all_goals exact subH_app _ _
    by_cases h2 : classI op = 2
    · (try simp (config := { maxSteps := 10000000 }) only [go_sem, List.reduceReplicate, BitVec.reduceOfInt, BitVec.reduceToNat, BitVec.reduceToInt, BitVec.reduceEq, BitVec.reduceLT, BitVec.reduceLE, BitVec.reduceAdd, BitVec.reduceSub, BitVec.reduceMul, BitVec.reduceUDiv, BitVec.reduceUMod, BitVec.reduceAnd, BitVec.reduceOr, BitVec.reduceXOr, BitVec.reduceNot, BitVec.reduceNeg, BitVec.reduceHShiftLeft, BitVec.reduceHShiftRight, Nat.reduceAdd, Nat.reduceMul, Nat.reduceSub, Nat.reduceBEq, Nat.reduceEqDiff, Nat.reduceLeDiff, Nat.reduceLT, Int.reduceLE, Int.reduceLT, Int.reduceAdd, Int.reduceSub, Int.reduceMul, Int.reduceNeg, Int.reduceToNat, Int.reduceEq, ↓reduceIte, reduceCtorEq, s_rget_eq, s_class_eq, s_xnum_eq, s_ado_eq, s_up_eq, s_xflow_eq, s_ksize_eq, s_low_eq, s_xatomic_eq, s_xcall_eq, s_xtrap_eq, hgx, h2, doL, plainL, effL]; repeat (simp (disch := omega) only [w64_d, ipos, ineg, dpos, dneg]; try simp (config := { maxSteps := 10000000 }) only [go_sem, List.reduceReplicate, BitVec.reduceOfInt, BitVec.reduceToNat, BitVec.reduceToInt, BitVec.reduceEq, BitVec.reduceLT, BitVec.reduceLE, BitVec.reduceAdd, BitVec.reduceSub, BitVec.reduceMul, BitVec.reduceUDiv, BitVec.reduceUMod, BitVec.reduceAnd, BitVec.reduceOr, BitVec.reduceXOr, BitVec.reduceNot, BitVec.reduceNeg, BitVec.reduceHShiftLeft, BitVec.reduceHShiftRight, Nat.reduceAdd, Nat.reduceMul, Nat.reduceSub, Nat.reduceBEq, Nat.reduceEqDiff, Nat.reduceLeDiff, Nat.reduceLT, Int.reduceLE, Int.reduceLT, Int.reduceAdd, Int.reduceSub, Int.reduceMul, Int.reduceNeg, Int.reduceToNat, Int.reduceEq, ↓reduceIte, reduceCtorEq, s_rget_eq, s_class_eq, s_xnum_eq, s_ado_eq, s_up_eq, s_xflow_eq, s_ksize_eq, s_low_eq, s_xatomic_eq, s_xcall_eq, s_xtrap_eq, hgx, h2, doL, plainL, effL]))
      exact subH_app _ _
    by_cases h4 : classI op = 4
    · (try simp (config := { maxSteps := 10000000 }) only [go_sem, List.reduceReplicate, BitVec.reduceOfInt, BitVec.reduceToNat, BitVec.reduceToInt, BitVec.reduceEq, BitVec.reduceLT, BitVec.reduceLE, BitVec.reduceAdd, BitVec.reduceSub, BitVec.reduceMul, BitVec.reduceUDiv, BitVec.reduceUMod, BitVec.reduceAnd, BitVec.reduceOr, BitVec.reduceXOr, BitVec.reduceNot, BitVec.reduceNeg, BitVec.reduceHShiftLeft, BitVec.reduceHShiftRight, Nat.reduceAdd, Nat.reduceMul, Nat.reduceSub, Nat.reduceBEq, Nat.reduceEqDiff, Nat.reduceLeDiff, Nat.reduceLT, Int.reduceLE, Int.reduceLT, Int.reduceAdd, Int.reduceSub, Int.reduceMul, Int.reduceNeg, Int.reduceToNat, Int.reduceEq, ↓reduceIte, reduceCtorEq, s_rget_eq, s_class_eq, s_xnum_eq, s_ado_eq, s_up_eq, s_xflow_eq, s_ksize_eq, s_low_eq, s_xatomic_eq, s_xcall_eq, s_xtrap_eq, hgx, h4, doL, z1, z2, tz]; repeat (simp (disch := omega) only [w64_d, ipos, ineg, dpos, dneg]; try simp (config := { maxSteps := 10000000 }) only [go_sem, List.reduceReplicate, BitVec.reduceOfInt, BitVec.reduceToNat, BitVec.reduceToInt, BitVec.reduceEq, BitVec.reduceLT, BitVec.reduceLE, BitVec.reduceAdd, BitVec.reduceSub, BitVec.reduceMul, BitVec.reduceUDiv, BitVec.reduceUMod, BitVec.reduceAnd, BitVec.reduceOr, BitVec.reduceXOr, BitVec.reduceNot, BitVec.reduceNeg, BitVec.reduceHShiftLeft, BitVec.reduceHShiftRight, Nat.reduceAdd, Nat.reduceMul, Nat.reduceSub, Nat.reduceBEq, Nat.reduceEqDiff, Nat.reduceLeDiff, Nat.reduceLT, Int.reduceLE, Int.reduceLT, Int.reduceAdd, Int.reduceSub, Int.reduceMul, Int.reduceNeg, Int.reduceToNat, Int.reduceEq, ↓reduceIte, reduceCtorEq, s_rget_eq, s_class_eq, s_xnum_eq, s_ado_eq, s_up_eq, s_xflow_eq, s_ksize_eq, s_low_eq, s_xatomic_eq, s_xcall_eq, s_xtrap_eq, hgx, h4, doL, z1, z2, tz]))
      exact subH_app _ _
    by_cases h3 : classI op = 3
    · (try simp (config := { maxSteps := 10000000 }) only [go_sem, List.reduceReplicate, BitVec.reduceOfInt, BitVec.reduceToNat, BitVec.reduceToInt, BitVec.reduceEq, BitVec.reduceLT, BitVec.reduceLE, BitVec.reduceAdd, BitVec.reduceSub, BitVec.reduceMul, BitVec.reduceUDiv, BitVec.reduceUMod, BitVec.reduceAnd, BitVec.reduceOr, BitVec.reduceXOr, BitVec.reduceNot, BitVec.reduceNeg, BitVec.reduceHShiftLeft, BitVec.reduceHShiftRight, Nat.reduceAdd, Nat.reduceMul, Nat.reduceSub, Nat.reduceBEq, Nat.reduceEqDiff, Nat.reduceLeDiff, Nat.reduceLT, Int.reduceLE, Int.reduceLT, Int.reduceAdd, Int.reduceSub, Int.reduceMul, Int.reduceNeg, Int.reduceToNat, Int.reduceEq, ↓reduceIte, reduceCtorEq, s_rget_eq, s_class_eq, s_xnum_eq, s_ado_eq, s_up_eq, s_xflow_eq, s_ksize_eq, s_low_eq, s_xatomic_eq, s_xcall_eq, s_xtrap_eq, hgx, h3, doL, z1, z2, tz]; repeat (simp (disch := omega) only [w64_d, ipos, ineg, dpos, dneg]; try simp (config := { maxSteps := 10000000 }) only [go_sem, List.reduceReplicate, BitVec.reduceOfInt, BitVec.reduceToNat, BitVec.reduceToInt, BitVec.reduceEq, BitVec.reduceLT, BitVec.reduceLE, BitVec.reduceAdd, BitVec.reduceSub, BitVec.reduceMul, BitVec.reduceUDiv, BitVec.reduceUMod, BitVec.reduceAnd, BitVec.reduceOr, BitVec.reduceXOr, BitVec.reduceNot, BitVec.reduceNeg, BitVec.reduceHShiftLeft, BitVec.reduceHShiftRight, Nat.reduceAdd, Nat.reduceMul, Nat.reduceSub, Nat.reduceBEq, Nat.reduceEqDiff, Nat.reduceLeDiff, Nat.reduceLT, Int.reduceLE, Int.reduceLT, Int.reduceAdd, Int.reduceSub, Int.reduceMul, Int.reduceNeg, Int.reduceToNat, Int.reduceEq, ↓reduceIte, reduceCtorEq, s_rget_eq, s_class_eq, s_xnum_eq, s_ado_eq, s_up_eq, s_xflow_eq, s_ksize_eq, s_low_eq, s_xatomic_eq, s_xcall_eq, s_xtrap_eq, hgx, h3, doL, z1, z2, tz]))
      exact subH_app _ _
    by_cases h5 : classI op = 5
    · (try simp (config := { maxSteps := 10000000 }) only [go_sem, List.reduceReplicate, BitVec.reduceOfInt, BitVec.reduceToNat, BitVec.reduceToInt, BitVec.reduceEq, BitVec.reduceLT, BitVec.reduceLE, BitVec.reduceAdd, BitVec.reduceSub, BitVec.reduceMul, BitVec.reduceUDiv, BitVec.reduceUMod, BitVec.reduceAnd, BitVec.reduceOr, BitVec.reduceXOr, BitVec.reduceNot, BitVec.reduceNeg, BitVec.reduceHShiftLeft, BitVec.reduceHShiftRight, Nat.reduceAdd, Nat.reduceMul, Nat.reduceSub, Nat.reduceBEq, Nat.reduceEqDiff, Nat.reduceLeDiff, Nat.reduceLT, Int.reduceLE, Int.reduceLT, Int.reduceAdd, Int.reduceSub, Int.reduceMul, Int.reduceNeg, Int.reduceToNat, Int.reduceEq, ↓reduceIte, reduceCtorEq, s_rget_eq, s_class_eq, s_xnum_eq, s_ado_eq, s_up_eq, s_xflow_eq, s_ksize_eq, s_low_eq, s_xatomic_eq, s_xcall_eq, s_xtrap_eq, hgx, h5, doL, effL, nl]; repeat (simp (disch := omega) only [w64_d, ipos, ineg, dpos, dneg]; try simp (config := { maxSteps := 10000000 }) only [go_sem, List.reduceReplicate, BitVec.reduceOfInt, BitVec.reduceToNat, BitVec.reduceToInt, BitVec.reduceEq, BitVec.reduceLT, BitVec.reduceLE, BitVec.reduceAdd, BitVec.reduceSub, BitVec.reduceMul, BitVec.reduceUDiv, BitVec.reduceUMod, BitVec.reduceAnd, BitVec.reduceOr, BitVec.reduceXOr, BitVec.reduceNot, BitVec.reduceNeg, BitVec.reduceHShiftLeft, BitVec.reduceHShiftRight, Nat.reduceAdd, Nat.reduceMul, Nat.reduceSub, Nat.reduceBEq, Nat.reduceEqDiff, Nat.reduceLeDiff, Nat.reduceLT, Int.reduceLE, Int.reduceLT, Int.reduceAdd, Int.reduceSub, Int.reduceMul, Int.reduceNeg, Int.reduceToNat, Int.reduceEq, ↓reduceIte, reduceCtorEq, s_rget_eq, s_class_eq, s_xnum_eq, s_ado_eq, s_up_eq, s_xflow_eq, s_ksize_eq, s_low_eq, s_xatomic_eq, s_xcall_eq, s_xtrap_eq, hgx, h5, doL, effL, nl]))
      exact subH_app _ _
    by_cases h6 : classI op = 6
    · (try simp (config := { maxSteps := 10000000 }) only [go_sem, List.reduceReplicate, BitVec.reduceOfInt, BitVec.reduceToNat, BitVec.reduceToInt, BitVec.reduceEq, BitVec.reduceLT, BitVec.reduceLE, BitVec.reduceAdd, BitVec.reduceSub, BitVec.reduceMul, BitVec.reduceUDiv, BitVec.reduceUMod, BitVec.reduceAnd, BitVec.reduceOr, BitVec.reduceXOr, BitVec.reduceNot, BitVec.reduceNeg, BitVec.reduceHShiftLeft, BitVec.reduceHShiftRight, Nat.reduceAdd, Nat.reduceMul, Nat.reduceSub, Nat.reduceBEq, Nat.reduceEqDiff, Nat.reduceLeDiff, Nat.reduceLT, Int.reduceLE, Int.reduceLT, Int.reduceAdd, Int.reduceSub, Int.reduceMul, Int.reduceNeg, Int.reduceToNat, Int.reduceEq, ↓reduceIte, reduceCtorEq, s_rget_eq, s_class_eq, s_xnum_eq, s_ado_eq, s_up_eq, s_xflow_eq, s_ksize_eq, s_low_eq, s_xatomic_eq, s_xcall_eq, s_xtrap_eq, hgx, h6, e1, i1, doL, effL, nl]; repeat (simp (disch := omega) only [w64_d, ipos, ineg, dpos, dneg]; try simp (config := { maxSteps := 10000000 }) only [go_sem, List.reduceReplicate, BitVec.reduceOfInt, BitVec.reduceToNat, BitVec.reduceToInt, BitVec.reduceEq, BitVec.reduceLT, BitVec.reduceLE, BitVec.reduceAdd, BitVec.reduceSub, BitVec.reduceMul, BitVec.reduceUDiv, BitVec.reduceUMod, BitVec.reduceAnd, BitVec.reduceOr, BitVec.reduceXOr, BitVec.reduceNot, BitVec.reduceNeg, BitVec.reduceHShiftLeft, BitVec.reduceHShiftRight, Nat.reduceAdd, Nat.reduceMul, Nat.reduceSub, Nat.reduceBEq, Nat.reduceEqDiff, Nat.reduceLeDiff, Nat.reduceLT, Int.reduceLE, Int.reduceLT, Int.reduceAdd, Int.reduceSub, Int.reduceMul, Int.reduceNeg, Int.reduceToNat, Int.reduceEq, ↓reduceIte, reduceCtorEq, s_rget_eq, s_class_eq, s_xnum_eq, s_ado_eq, s_up_eq, s_xflow_eq, s_ksize_eq, s_low_eq, s_xatomic_eq, s_xcall_eq, s_xtrap_eq, hgx, h6, e1, i1, doL, effL, nl]))
      exact subH_app _ _
    by_cases h7 : classI op = 7
    · (try simp (config := { maxSteps := 10000000 }) only [go_sem, List.reduceReplicate, BitVec.reduceOfInt, BitVec.reduceToNat, BitVec.reduceToInt, BitVec.reduceEq, BitVec.reduceLT, BitVec.reduceLE, BitVec.reduceAdd, BitVec.reduceSub, BitVec.reduceMul, BitVec.reduceUDiv, BitVec.reduceUMod, BitVec.reduceAnd, BitVec.reduceOr, BitVec.reduceXOr, BitVec.reduceNot, BitVec.reduceNeg, BitVec.reduceHShiftLeft, BitVec.reduceHShiftRight, Nat.reduceAdd, Nat.reduceMul, Nat.reduceSub, Nat.reduceBEq, Nat.reduceEqDiff, Nat.reduceLeDiff, Nat.reduceLT, Int.reduceLE, Int.reduceLT, Int.reduceAdd, Int.reduceSub, Int.reduceMul, Int.reduceNeg, Int.reduceToNat, Int.reduceEq, ↓reduceIte, reduceCtorEq, s_rget_eq, s_class_eq, s_xnum_eq, s_ado_eq, s_up_eq, s_xflow_eq, s_ksize_eq, s_low_eq, s_xatomic_eq, s_xcall_eq, s_xtrap_eq, hgx, h7, doL, y1, y2, ty]; repeat (simp (disch := omega) only [w64_d, ipos, ineg, dpos, dneg]; try simp (config := { maxSteps := 10000000 }) only [go_sem, List.reduceReplicate, BitVec.reduceOfInt, BitVec.reduceToNat, BitVec.reduceToInt, BitVec.reduceEq, BitVec.reduceLT, BitVec.reduceLE, BitVec.reduceAdd, BitVec.reduceSub, BitVec.reduceMul, BitVec.reduceUDiv, BitVec.reduceUMod, BitVec.reduceAnd, BitVec.reduceOr, BitVec.reduceXOr, BitVec.reduceNot, BitVec.reduceNeg, BitVec.reduceHShiftLeft, BitVec.reduceHShiftRight, Nat.reduceAdd, Nat.reduceMul, Nat.reduceSub, Nat.reduceBEq, Nat.reduceEqDiff, Nat.reduceLeDiff, Nat.reduceLT, Int.reduceLE, Int.reduceLT, Int.reduceAdd, Int.reduceSub, Int.reduceMul, Int.reduceNeg, Int.reduceToNat, Int.reduceEq, ↓reduceIte, reduceCtorEq, s_rget_eq, s_class_eq, s_xnum_eq, s_ado_eq, s_up_eq, s_xflow_eq, s_ksize_eq, s_low_eq, s_xatomic_eq, s_xcall_eq, s_xtrap_eq, hgx, h7, doL, y1, y2, ty]))
      exact subH_app _ _
    by_cases h9 : classI op = 9
    · (try simp (config := { maxSteps := 10000000 }) only [go_sem, List.reduceReplicate, BitVec.reduceOfInt, BitVec.reduceToNat, BitVec.reduceToInt, BitVec.reduceEq, BitVec.reduceLT, BitVec.reduceLE, BitVec.reduceAdd, BitVec.reduceSub, BitVec.reduceMul, BitVec.reduceUDiv, BitVec.reduceUMod, BitVec.reduceAnd, BitVec.reduceOr, BitVec.reduceXOr, BitVec.reduceNot, BitVec.reduceNeg, BitVec.reduceHShiftLeft, BitVec.reduceHShiftRight, Nat.reduceAdd, Nat.reduceMul, Nat.reduceSub, Nat.reduceBEq, Nat.reduceEqDiff, Nat.reduceLeDiff, Nat.reduceLT, Int.reduceLE, Int.reduceLT, Int.reduceAdd, Int.reduceSub, Int.reduceMul, Int.reduceNeg, Int.reduceToNat, Int.reduceEq, ↓reduceIte, reduceCtorEq, s_rget_eq, s_class_eq, s_xnum_eq, s_ado_eq, s_up_eq, s_xflow_eq, s_ksize_eq, s_low_eq, s_xatomic_eq, s_xcall_eq, s_xtrap_eq, hgx, h9, doL, plainL, effL]; repeat (simp (disch := omega) only [w64_d, ipos, ineg, dpos, dneg]; try simp (config := { maxSteps := 10000000 }) only [go_sem, List.reduceReplicate, BitVec.reduceOfInt, BitVec.reduceToNat, BitVec.reduceToInt, BitVec.reduceEq, BitVec.reduceLT, BitVec.reduceLE, BitVec.reduceAdd, BitVec.reduceSub, BitVec.reduceMul, BitVec.reduceUDiv, BitVec.reduceUMod, BitVec.reduceAnd, BitVec.reduceOr, BitVec.reduceXOr, BitVec.reduceNot, BitVec.reduceNeg, BitVec.reduceHShiftLeft, BitVec.reduceHShiftRight, Nat.reduceAdd, Nat.reduceMul, Nat.reduceSub, Nat.reduceBEq, Nat.reduceEqDiff, Nat.reduceLeDiff, Nat.reduceLT, Int.reduceLE, Int.reduceLT, Int.reduceAdd, Int.reduceSub, Int.reduceMul, Int.reduceNeg, Int.reduceToNat, Int.reduceEq, ↓reduceIte, reduceCtorEq, s_rget_eq, s_class_eq, s_xnum_eq, s_ado_eq, s_up_eq, s_xflow_eq, s_ksize_eq, s_low_eq, s_xatomic_eq, s_xcall_eq, s_xtrap_eq, hgx, h9, doL, plainL, effL]))
      exact subH_app _ _
    by_cases h52 : op = 52
    · subst h52
      (try simp (config := { maxSteps := 10000000 }) only [go_sem, List.reduceReplicate, BitVec.reduceOfInt, BitVec.reduceToNat, BitVec.reduceToInt, BitVec.reduceEq, BitVec.reduceLT, BitVec.reduceLE, BitVec.reduceAdd, BitVec.reduceSub, BitVec.reduceMul, BitVec.reduceUDiv, BitVec.reduceUMod, BitVec.reduceAnd, BitVec.reduceOr, BitVec.reduceXOr, BitVec.reduceNot, BitVec.reduceNeg, BitVec.reduceHShiftLeft, BitVec.reduceHShiftRight, Nat.reduceAdd, Nat.reduceMul, Nat.reduceSub, Nat.reduceBEq, Nat.reduceEqDiff, Nat.reduceLeDiff, Nat.reduceLT, Int.reduceLE, Int.reduceLT, Int.reduceAdd, Int.reduceSub, Int.reduceMul, Int.reduceNeg, Int.reduceToNat, Int.reduceEq, ↓reduceIte, reduceCtorEq, s_rget_eq, s_class_eq, s_xnum_eq, s_ado_eq, s_up_eq, s_xflow_eq, s_ksize_eq, s_low_eq, s_xatomic_eq, s_xcall_eq, s_xtrap_eq, hgx, h1, h2, h3, h4, h5, h6, h7, h9, doL, trapL, effL]; repeat (simp (disch := omega) only [w64_d, ipos, ineg, dpos, dneg]; try simp (config := { maxSteps := 10000000 }) only [go_sem, List.reduceReplicate, BitVec.reduceOfInt, BitVec.reduceToNat, BitVec.reduceToInt, BitVec.reduceEq, BitVec.reduceLT, BitVec.reduceLE, BitVec.reduceAdd, BitVec.reduceSub, BitVec.reduceMul, BitVec.reduceUDiv, BitVec.reduceUMod, BitVec.reduceAnd, BitVec.reduceOr, BitVec.reduceXOr, BitVec.reduceNot, BitVec.reduceNeg, BitVec.reduceHShiftLeft, BitVec.reduceHShiftRight, Nat.reduceAdd, Nat.reduceMul, Nat.reduceSub, Nat.reduceBEq, Nat.reduceEqDiff, Nat.reduceLeDiff, Nat.reduceLT, Int.reduceLE, Int.reduceLT, Int.reduceAdd, Int.reduceSub, Int.reduceMul, Int.reduceNeg, Int.reduceToNat, Int.reduceEq, ↓reduceIte, reduceCtorEq, s_rget_eq, s_class_eq, s_xnum_eq, s_ado_eq, s_up_eq, s_xflow_eq, s_ksize_eq, s_low_eq, s_xatomic_eq, s_xcall_eq, s_xtrap_eq, hgx, h1, h2, h3, h4, h5, h6, h7, h9, doL, trapL, effL]))
      exact subH_app _ _
    by_cases h53 : op = 53
    · subst h53
      (try simp (config := { maxSteps := 10000000 }) only [go_sem, List.reduceReplicate, BitVec.reduceOfInt, BitVec.reduceToNat, BitVec.reduceToInt, BitVec.reduceEq, BitVec.reduceLT, BitVec.reduceLE, BitVec.reduceAdd, BitVec.reduceSub, BitVec.reduceMul, BitVec.reduceUDiv, BitVec.reduceUMod, BitVec.reduceAnd, BitVec.reduceOr, BitVec.reduceXOr, BitVec.reduceNot, BitVec.reduceNeg, BitVec.reduceHShiftLeft, BitVec.reduceHShiftRight, Nat.reduceAdd, Nat.reduceMul, Nat.reduceSub, Nat.reduceBEq, Nat.reduceEqDiff, Nat.reduceLeDiff, Nat.reduceLT, Int.reduceLE, Int.reduceLT, Int.reduceAdd, Int.reduceSub, Int.reduceMul, Int.reduceNeg, Int.reduceToNat, Int.reduceEq, ↓reduceIte, reduceCtorEq, s_rget_eq, s_class_eq, s_xnum_eq, s_ado_eq, s_up_eq, s_xflow_eq, s_ksize_eq, s_low_eq, s_xatomic_eq, s_xcall_eq, s_xtrap_eq, hgx, h1, h2, h3, h4, h5, h6, h7, h9, doL, trapL, effL]; repeat (simp (disch := omega) only [w64_d, ipos, ineg, dpos, dneg]; try simp (config := { maxSteps := 10000000 }) only [go_sem, List.reduceReplicate, BitVec.reduceOfInt, BitVec.reduceToNat, BitVec.reduceToInt, BitVec.reduceEq, BitVec.reduceLT, BitVec.reduceLE, BitVec.reduceAdd, BitVec.reduceSub, BitVec.reduceMul, BitVec.reduceUDiv, BitVec.reduceUMod, BitVec.reduceAnd, BitVec.reduceOr, BitVec.reduceXOr, BitVec.reduceNot, BitVec.reduceNeg, BitVec.reduceHShiftLeft, BitVec.reduceHShiftRight, Nat.reduceAdd, Nat.reduceMul, Nat.reduceSub, Nat.reduceBEq, Nat.reduceEqDiff, Nat.reduceLeDiff, Nat.reduceLT, Int.reduceLE, Int.reduceLT, Int.reduceAdd, Int.reduceSub, Int.reduceMul, Int.reduceNeg, Int.reduceToNat, Int.reduceEq, ↓reduceIte, reduceCtorEq, s_rget_eq, s_class_eq, s_xnum_eq, s_ado_eq, s_up_eq, s_xflow_eq, s_ksize_eq, s_low_eq, s_xatomic_eq, s_xcall_eq, s_xtrap_eq, hgx, h1, h2, h3, h4, h5, h6, h7, h9, doL, trapL, effL]))
      exact subH_app _ _
    · (try simp (config := { maxSteps := 10000000 }) only [go_sem, List.reduceReplicate, BitVec.reduceOfInt, BitVec.reduceToNat, BitVec.reduceToInt, BitVec.reduceEq, BitVec.reduceLT, BitVec.reduceLE, BitVec.reduceAdd, BitVec.reduceSub, BitVec.reduceMul, BitVec.reduceUDiv, BitVec.reduceUMod, BitVec.reduceAnd, BitVec.reduceOr, BitVec.reduceXOr, BitVec.reduceNot, BitVec.reduceNeg, BitVec.reduceHShiftLeft, BitVec.reduceHShiftRight, Nat.reduceAdd, Nat.reduceMul, Nat.reduceSub, Nat.reduceBEq, Nat.reduceEqDiff, Nat.reduceLeDiff, Nat.reduceLT, Int.reduceLE, Int.reduceLT, Int.reduceAdd, Int.reduceSub, Int.reduceMul, Int.reduceNeg, Int.reduceToNat, Int.reduceEq, ↓reduceIte, reduceCtorEq, s_rget_eq, s_class_eq, s_xnum_eq, s_ado_eq, s_up_eq, s_xflow_eq, s_ksize_eq, s_low_eq, s_xatomic_eq, s_xcall_eq, s_xtrap_eq, hgx, h1, h2, h3, h4, h5, h6, h7, h9, h52, h53, doL, effL]; repeat (simp (disch := omega) only [w64_d, ipos, ineg, dpos, dneg]; try simp (config := { maxSteps := 10000000 }) only [go_sem, List.reduceReplicate, BitVec.reduceOfInt, BitVec.reduceToNat, BitVec.reduceToInt, BitVec.reduceEq, BitVec.reduceLT, BitVec.reduceLE, BitVec.reduceAdd, BitVec.reduceSub, BitVec.reduceMul, BitVec.reduceUDiv, BitVec.reduceUMod, BitVec.reduceAnd, BitVec.reduceOr, BitVec.reduceXOr, BitVec.reduceNot, BitVec.reduceNeg, BitVec.reduceHShiftLeft, BitVec.reduceHShiftRight, Nat.reduceAdd, Nat.reduceMul, Nat.reduceSub, Nat.reduceBEq, Nat.reduceEqDiff, Nat.reduceLeDiff, Nat.reduceLT, Int.reduceLE, Int.reduceLT, Int.reduceAdd, Int.reduceSub, Int.reduceMul, Int.reduceNeg, Int.reduceToNat, Int.reduceEq, ↓reduceIte, reduceCtorEq, s_rget_eq, s_class_eq, s_xnum_eq, s_ado_eq, s_up_eq, s_xflow_eq, s_ksize_eq, s_low_eq, s_xatomic_eq, s_xcall_eq, s_xtrap_eq, hgx, h1, h2, h3, h4, h5, h6, h7, h9, h52, h53, doL, effL]))
      exact subH_app _ _
  · simp at h

def s_xrlands (args : List AV) : Option AV :=
  match args with
  | [.g [.i op, .i rd, .i r1, .i r2, .i im, .i cs, .b aq, .b rl], .g (.u d :: .b gd :: m)] => if m.length = 40 ∧ m.all Sc.pf = true then some (.c (.u (landU op d gd))) else none
  | _ => none
theorem s_xrlands_eq {op rd r1 r2 im cs aq rl d gd m} : s_xrlands [.g [.i op, .i rd, .i r1, .i r2, .i im, .i cs, .b aq, .b rl], .g (.u d :: .b gd :: m)] = if m.length = 40 ∧ m.all Sc.pf = true then some (.c (.u (landU op d gd))) else none := rfl
set_option maxRecDepth 100000 in
set_option maxHeartbeats 2000000 in
theorem ok_xrlands : PuOk Try.prog 6 s_xrlands := by
  refine pu_ok (tab := [(10, .pu s_rclass), (19, .pu s_rksign), (11, .pu s_rksize), (20, .pu s_rsign), (21, .pu s_rcut), (22, .pu s_ris8), (23, .pu s_rloaded8)]) hmix (TabOk.cons (e := .pu s_rclass) ok_rclass (TabOk.cons (e := .pu s_rksign) ok_rksign (TabOk.cons (e := .pu s_rksize) ok_rksize (TabOk.cons (e := .pu s_rsign) ok_rsign (TabOk.cons (e := .pu s_rcut) ok_rcut (TabOk.cons (e := .pu s_ris8) ok_ris8 (TabOk.cons (e := .pu s_rloaded8) ok_rloaded8 TabOk.nil))))))) Try.func6 rfl Try.results6 Try.ntmps6 (by kernel_rfl) (by kernel_rfl) ?_
  intro args v h
  unfold s_xrlands at h
  split at h
  · rename_i op rd r1 r2 im cs aq rl d gd m
    split at h
    · rename_i hc
      simp only [Option.some.injEq] at h; subst h
      obtain ⟨lm, pm⟩ := hc
      refine ⟨by simp only [List.length_cons, List.length_nil]; decide, by first | rfl | simp only [List.all_cons, List.all_nil, AV.pf, Sc.pf, Bool.and_true, *], by first | rfl | simp only [List.all_cons, List.all_nil, AV.pf, Sc.pf, Bool.and_true, *], ?_⟩
      obtain ⟨e1, i1⟩ := size_w op
      have i0 : inR 0 := ⟨by omega, by omega⟩
      by_cases h5 : classI op = 5
      · cases h : signB op
        all_goals (try simp (config := { maxSteps := 10000000 }) only [go_sem, List.reduceReplicate, BitVec.reduceOfInt, BitVec.reduceToNat, BitVec.reduceToInt, BitVec.reduceEq, BitVec.reduceLT, BitVec.reduceLE, BitVec.reduceAdd, BitVec.reduceSub, BitVec.reduceMul, BitVec.reduceUDiv, BitVec.reduceUMod, BitVec.reduceAnd, BitVec.reduceOr, BitVec.reduceXOr, BitVec.reduceNot, BitVec.reduceNeg, BitVec.reduceHShiftLeft, BitVec.reduceHShiftRight, Nat.reduceAdd, Nat.reduceMul, Nat.reduceSub, Nat.reduceBEq, Nat.reduceEqDiff, Nat.reduceLeDiff, Nat.reduceLT, Int.reduceLE, Int.reduceLT, Int.reduceAdd, Int.reduceSub, Int.reduceMul, Int.reduceNeg, Int.reduceToNat, Int.reduceEq, ↓reduceIte, reduceCtorEq, s_rclass_eq, s_rksign_eq, s_rksize_eq, s_rsign_eq, s_rcut_eq, s_ris8_eq, s_rloaded8_eq, h5, h, e1, i1, i0, landU, lm, cut_low]; repeat (simp (disch := omega) only [w64_d, ipos, ineg, dpos, dneg]; try simp (config := { maxSteps := 10000000 }) only [go_sem, List.reduceReplicate, BitVec.reduceOfInt, BitVec.reduceToNat, BitVec.reduceToInt, BitVec.reduceEq, BitVec.reduceLT, BitVec.reduceLE, BitVec.reduceAdd, BitVec.reduceSub, BitVec.reduceMul, BitVec.reduceUDiv, BitVec.reduceUMod, BitVec.reduceAnd, BitVec.reduceOr, BitVec.reduceXOr, BitVec.reduceNot, BitVec.reduceNeg, BitVec.reduceHShiftLeft, BitVec.reduceHShiftRight, Nat.reduceAdd, Nat.reduceMul, Nat.reduceSub, Nat.reduceBEq, Nat.reduceEqDiff, Nat.reduceLeDiff, Nat.reduceLT, Int.reduceLE, Int.reduceLT, Int.reduceAdd, Int.reduceSub, Int.reduceMul, Int.reduceNeg, Int.reduceToNat, Int.reduceEq, ↓reduceIte, reduceCtorEq, s_rclass_eq, s_rksign_eq, s_rksize_eq, s_rsign_eq, s_rcut_eq, s_ris8_eq, s_rloaded8_eq, h5, h, e1, i1, i0, landU, lm, cut_low]))
      have k7 : condB op = true → classI op = 7 := by
        rw [class_7]; unfold condB
        repeat' split
        all_goals simp_all
      cases h : condB op
      · have h3 : ¬ isI op = 3 := by rw [isI_3, h]; simp
        by_cases h7 : classI op = 7
        · (try simp (config := { maxSteps := 10000000 }) only [go_sem, List.reduceReplicate, BitVec.reduceOfInt, BitVec.reduceToNat, BitVec.reduceToInt, BitVec.reduceEq, BitVec.reduceLT, BitVec.reduceLE, BitVec.reduceAdd, BitVec.reduceSub, BitVec.reduceMul, BitVec.reduceUDiv, BitVec.reduceUMod, BitVec.reduceAnd, BitVec.reduceOr, BitVec.reduceXOr, BitVec.reduceNot, BitVec.reduceNeg, BitVec.reduceHShiftLeft, BitVec.reduceHShiftRight, Nat.reduceAdd, Nat.reduceMul, Nat.reduceSub, Nat.reduceBEq, Nat.reduceEqDiff, Nat.reduceLeDiff, Nat.reduceLT, Int.reduceLE, Int.reduceLT, Int.reduceAdd, Int.reduceSub, Int.reduceMul, Int.reduceNeg, Int.reduceToNat, Int.reduceEq, ↓reduceIte, reduceCtorEq, s_rclass_eq, s_rksign_eq, s_rksize_eq, s_rsign_eq, s_rcut_eq, s_ris8_eq, s_rloaded8_eq, h5, h3, h, h7, landU, lm]; repeat (simp (disch := omega) only [w64_d, ipos, ineg, dpos, dneg]; try simp (config := { maxSteps := 10000000 }) only [go_sem, List.reduceReplicate, BitVec.reduceOfInt, BitVec.reduceToNat, BitVec.reduceToInt, BitVec.reduceEq, BitVec.reduceLT, BitVec.reduceLE, BitVec.reduceAdd, BitVec.reduceSub, BitVec.reduceMul, BitVec.reduceUDiv, BitVec.reduceUMod, BitVec.reduceAnd, BitVec.reduceOr, BitVec.reduceXOr, BitVec.reduceNot, BitVec.reduceNeg, BitVec.reduceHShiftLeft, BitVec.reduceHShiftRight, Nat.reduceAdd, Nat.reduceMul, Nat.reduceSub, Nat.reduceBEq, Nat.reduceEqDiff, Nat.reduceLeDiff, Nat.reduceLT, Int.reduceLE, Int.reduceLT, Int.reduceAdd, Int.reduceSub, Int.reduceMul, Int.reduceNeg, Int.reduceToNat, Int.reduceEq, ↓reduceIte, reduceCtorEq, s_rclass_eq, s_rksign_eq, s_rksize_eq, s_rsign_eq, s_rcut_eq, s_ris8_eq, s_rloaded8_eq, h5, h3, h, h7, landU, lm]))
        · (try simp (config := { maxSteps := 10000000 }) only [go_sem, List.reduceReplicate, BitVec.reduceOfInt, BitVec.reduceToNat, BitVec.reduceToInt, BitVec.reduceEq, BitVec.reduceLT, BitVec.reduceLE, BitVec.reduceAdd, BitVec.reduceSub, BitVec.reduceMul, BitVec.reduceUDiv, BitVec.reduceUMod, BitVec.reduceAnd, BitVec.reduceOr, BitVec.reduceXOr, BitVec.reduceNot, BitVec.reduceNeg, BitVec.reduceHShiftLeft, BitVec.reduceHShiftRight, Nat.reduceAdd, Nat.reduceMul, Nat.reduceSub, Nat.reduceBEq, Nat.reduceEqDiff, Nat.reduceLeDiff, Nat.reduceLT, Int.reduceLE, Int.reduceLT, Int.reduceAdd, Int.reduceSub, Int.reduceMul, Int.reduceNeg, Int.reduceToNat, Int.reduceEq, ↓reduceIte, reduceCtorEq, s_rclass_eq, s_rksign_eq, s_rksize_eq, s_rsign_eq, s_rcut_eq, s_ris8_eq, s_rloaded8_eq, h5, h3, h, h7, landU, lm, loadU]; repeat (simp (disch := omega) only [w64_d, ipos, ineg, dpos, dneg]; try simp (config := { maxSteps := 10000000 }) only [go_sem, List.reduceReplicate, BitVec.reduceOfInt, BitVec.reduceToNat, BitVec.reduceToInt, BitVec.reduceEq, BitVec.reduceLT, BitVec.reduceLE, BitVec.reduceAdd, BitVec.reduceSub, BitVec.reduceMul, BitVec.reduceUDiv, BitVec.reduceUMod, BitVec.reduceAnd, BitVec.reduceOr, BitVec.reduceXOr, BitVec.reduceNot, BitVec.reduceNeg, BitVec.reduceHShiftLeft, BitVec.reduceHShiftRight, Nat.reduceAdd, Nat.reduceMul, Nat.reduceSub, Nat.reduceBEq, Nat.reduceEqDiff, Nat.reduceLeDiff, Nat.reduceLT, Int.reduceLE, Int.reduceLT, Int.reduceAdd, Int.reduceSub, Int.reduceMul, Int.reduceNeg, Int.reduceToNat, Int.reduceEq, ↓reduceIte, reduceCtorEq, s_rclass_eq, s_rksign_eq, s_rksize_eq, s_rsign_eq, s_rcut_eq, s_ris8_eq, s_rloaded8_eq, h5, h3, h, h7, landU, lm, loadU]))
      · have h3 : isI op = 3 := by rw [isI_3, h]
        have h7 := k7 h
        cases gd
        all_goals (try simp (config := { maxSteps := 10000000 }) only [go_sem, List.reduceReplicate, BitVec.reduceOfInt, BitVec.reduceToNat, BitVec.reduceToInt, BitVec.reduceEq, BitVec.reduceLT, BitVec.reduceLE, BitVec.reduceAdd, BitVec.reduceSub, BitVec.reduceMul, BitVec.reduceUDiv, BitVec.reduceUMod, BitVec.reduceAnd, BitVec.reduceOr, BitVec.reduceXOr, BitVec.reduceNot, BitVec.reduceNeg, BitVec.reduceHShiftLeft, BitVec.reduceHShiftRight, Nat.reduceAdd, Nat.reduceMul, Nat.reduceSub, Nat.reduceBEq, Nat.reduceEqDiff, Nat.reduceLeDiff, Nat.reduceLT, Int.reduceLE, Int.reduceLT, Int.reduceAdd, Int.reduceSub, Int.reduceMul, Int.reduceNeg, Int.reduceToNat, Int.reduceEq, ↓reduceIte, reduceCtorEq, s_rclass_eq, s_rksign_eq, s_rksize_eq, s_rsign_eq, s_rcut_eq, s_ris8_eq, s_rloaded8_eq, h5, h3, h, h7, landU, lm]; repeat (simp (disch := omega) only [w64_d, ipos, ineg, dpos, dneg]; try simp (config := { maxSteps := 10000000 }) only [go_sem, List.reduceReplicate, BitVec.reduceOfInt, BitVec.reduceToNat, BitVec.reduceToInt, BitVec.reduceEq, BitVec.reduceLT, BitVec.reduceLE, BitVec.reduceAdd, BitVec.reduceSub, BitVec.reduceMul, BitVec.reduceUDiv, BitVec.reduceUMod, BitVec.reduceAnd, BitVec.reduceOr, BitVec.reduceXOr, BitVec.reduceNot, BitVec.reduceNeg, BitVec.reduceHShiftLeft, BitVec.reduceHShiftRight, Nat.reduceAdd, Nat.reduceMul, Nat.reduceSub, Nat.reduceBEq, Nat.reduceEqDiff, Nat.reduceLeDiff, Nat.reduceLT, Int.reduceLE, Int.reduceLT, Int.reduceAdd, Int.reduceSub, Int.reduceMul, Int.reduceNeg, Int.reduceToNat, Int.reduceEq, ↓reduceIte, reduceCtorEq, s_rclass_eq, s_rksign_eq, s_rksize_eq, s_rsign_eq, s_rcut_eq, s_ris8_eq, s_rloaded8_eq, h5, h3, h, h7, landU, lm]))
    · simp at h
  · simp at h
theorem live_x : signU 255#64 8 = 18446744073709551615#64 ∧ signB 11 = true ∧ classI 11 = 5 ∧ sizeI 11 = 1 := by
  refine ⟨?_, by decide, by decide, by decide⟩
  unfold signU; simp only [ofG_eqn]; decide +kernel
theorem live_y : doL 3 1 6 8#64 0#64 0#64 3 = trapL 0 14#64 := by
  unfold doL
  rw [if_neg (by decide), if_neg (by decide), if_neg (by decide), if_pos (by decide)]
  unfold flowL
  rw [if_neg (by decide)]
  unfold jumpL
  rw [show tgU 3 8#64 0#64 6 = 14#64 by decide, if_neg (by decide)]
def s_xlive (args : List AV) : Option AV :=
  match args with
  | [] => some (.c (.b true))
  | _ => none
theorem s_xlive_eq : s_xlive [] = some (.c (.b true)) := rfl
set_option maxRecDepth 100000 in
set_option maxHeartbeats 2000000 in
theorem ok_xlive : PuOk Try.prog 7 s_xlive := by
  refine pu_ok (tab := [(9, .fq s_edo), (5, .pu s_xlands)]) hmix (TabOk.cons (e := .fq s_edo) ok_edo (TabOk.cons (e := .pu s_xlands) ok_xlands TabOk.nil)) Try.func7 rfl Try.results7 Try.ntmps7 (by kernel_rfl) (by kernel_rfl) ?_
  intro args v h
  unfold s_xlive at h
  split at h
  · simp only [Option.some.injEq] at h; subst h
    refine ⟨by simp only [List.length_cons, List.length_nil]; decide, rfl, rfl, ?_⟩
    obtain ⟨e1, e2, e3, e4⟩ := live_x
    have e5 : landU 11 255#64 false = 18446744073709551615#64 := by
      unfold landU
      rw [if_pos e3, if_pos e2, e4]
      exact e1
    (try simp (config := { maxSteps := 10000000 }) only [go_sem, List.reduceReplicate, BitVec.reduceOfInt, BitVec.reduceToNat, BitVec.reduceToInt, BitVec.reduceEq, BitVec.reduceLT, BitVec.reduceLE, BitVec.reduceAdd, BitVec.reduceSub, BitVec.reduceMul, BitVec.reduceUDiv, BitVec.reduceUMod, BitVec.reduceAnd, BitVec.reduceOr, BitVec.reduceXOr, BitVec.reduceNot, BitVec.reduceNeg, BitVec.reduceHShiftLeft, BitVec.reduceHShiftRight, Nat.reduceAdd, Nat.reduceMul, Nat.reduceSub, Nat.reduceBEq, Nat.reduceEqDiff, Nat.reduceLeDiff, Nat.reduceLT, Int.reduceLE, Int.reduceLT, Int.reduceAdd, Int.reduceSub, Int.reduceMul, Int.reduceNeg, Int.reduceToNat, Int.reduceEq, ↓reduceIte, reduceCtorEq, s_edo_eq, s_xlands_eq, rgOf, live_y, trapL, effL, e5, Sc.pf]; repeat (simp (disch := omega) only [w64_d, ipos, ineg, dpos, dneg]; try simp (config := { maxSteps := 10000000 }) only [go_sem, List.reduceReplicate, BitVec.reduceOfInt, BitVec.reduceToNat, BitVec.reduceToInt, BitVec.reduceEq, BitVec.reduceLT, BitVec.reduceLE, BitVec.reduceAdd, BitVec.reduceSub, BitVec.reduceMul, BitVec.reduceUDiv, BitVec.reduceUMod, BitVec.reduceAnd, BitVec.reduceOr, BitVec.reduceXOr, BitVec.reduceNot, BitVec.reduceNeg, BitVec.reduceHShiftLeft, BitVec.reduceHShiftRight, Nat.reduceAdd, Nat.reduceMul, Nat.reduceSub, Nat.reduceBEq, Nat.reduceEqDiff, Nat.reduceLeDiff, Nat.reduceLT, Int.reduceLE, Int.reduceLT, Int.reduceAdd, Int.reduceSub, Int.reduceMul, Int.reduceNeg, Int.reduceToNat, Int.reduceEq, ↓reduceIte, reduceCtorEq, s_edo_eq, s_xlands_eq, rgOf, live_y, trapL, effL, e5, Sc.pf]))
  · simp at h
def s_xlandslaw (args : List AV) : Option AV :=
  match args with
  | [.g [.i op, .i rd, .i r1, .i r2, .i im, .i cs, .b aq, .b rl], .g (.u d :: .b gd :: m)] => if m.length = 40 ∧ m.all Sc.pf = true ∧ m.all Sc.one = true then some (.c (.b true)) else none
  | _ => none
theorem s_xlandslaw_eq {op rd r1 r2 im cs aq rl d gd m} : s_xlandslaw [.g [.i op, .i rd, .i r1, .i r2, .i im, .i cs, .b aq, .b rl], .g (.u d :: .b gd :: m)] = if m.length = 40 ∧ m.all Sc.pf = true ∧ m.all Sc.one = true then some (.c (.b true)) else none := rfl
set_option maxRecDepth 100000 in
set_option maxHeartbeats 2000000 in
theorem ok_xlandslaw : PuOk Try.prog 3 s_xlandslaw := by
  refine pu_ok (tab := [(5, .pu s_xlands), (6, .pu s_xrlands), (7, .pu s_xlive)]) hmix (TabOk.cons (e := .pu s_xlands) ok_xlands (TabOk.cons (e := .pu s_xrlands) ok_xrlands (TabOk.cons (e := .pu s_xlive) ok_xlive TabOk.nil))) Try.func3 rfl Try.results3 Try.ntmps3 (by kernel_rfl) (by kernel_rfl) ?_
  intro args v h
  unfold s_xlandslaw at h
  split at h
  · rename_i op rd r1 r2 im cs aq rl d gd m
    split at h
    · rename_i hc
      simp only [Option.some.injEq] at h; subst h
      obtain ⟨lm, pm, om⟩ := hc
      refine ⟨by simp only [List.length_cons, List.length_nil]; decide, by first | rfl | simp only [List.all_cons, List.all_nil, AV.pf, Sc.pf, Bool.and_true, *], by first | rfl | simp only [List.all_cons, List.all_nil, AV.pf, Sc.pf, Bool.and_true, *], ?_⟩
      have tk : m.take 40 = m := by rw [← lm, List.take_length]
      (try simp (config := { maxSteps := 10000000 }) only [go_sem, List.reduceReplicate, BitVec.reduceOfInt, BitVec.reduceToNat, BitVec.reduceToInt, BitVec.reduceEq, BitVec.reduceLT, BitVec.reduceLE, BitVec.reduceAdd, BitVec.reduceSub, BitVec.reduceMul, BitVec.reduceUDiv, BitVec.reduceUMod, BitVec.reduceAnd, BitVec.reduceOr, BitVec.reduceXOr, BitVec.reduceNot, BitVec.reduceNeg, BitVec.reduceHShiftLeft, BitVec.reduceHShiftRight, Nat.reduceAdd, Nat.reduceMul, Nat.reduceSub, Nat.reduceBEq, Nat.reduceEqDiff, Nat.reduceLeDiff, Nat.reduceLT, Int.reduceLE, Int.reduceLT, Int.reduceAdd, Int.reduceSub, Int.reduceMul, Int.reduceNeg, Int.reduceToNat, Int.reduceEq, ↓reduceIte, reduceCtorEq, s_xlands_eq, s_xrlands_eq, s_xlive_eq, lm, tk, pm]; repeat (simp (disch := omega) only [w64_d, ipos, ineg, dpos, dneg]; try simp (config := { maxSteps := 10000000 }) only [go_sem, List.reduceReplicate, BitVec.reduceOfInt, BitVec.reduceToNat, BitVec.reduceToInt, BitVec.reduceEq, BitVec.reduceLT, BitVec.reduceLE, BitVec.reduceAdd, BitVec.reduceSub, BitVec.reduceMul, BitVec.reduceUDiv, BitVec.reduceUMod, BitVec.reduceAnd, BitVec.reduceOr, BitVec.reduceXOr, BitVec.reduceNot, BitVec.reduceNeg, BitVec.reduceHShiftLeft, BitVec.reduceHShiftRight, Nat.reduceAdd, Nat.reduceMul, Nat.reduceSub, Nat.reduceBEq, Nat.reduceEqDiff, Nat.reduceLeDiff, Nat.reduceLT, Int.reduceLE, Int.reduceLT, Int.reduceAdd, Int.reduceSub, Int.reduceMul, Int.reduceNeg, Int.reduceToNat, Int.reduceEq, ↓reduceIte, reduceCtorEq, s_xlands_eq, s_xrlands_eq, s_xlive_eq, lm, tk, pm]))
    · simp at h
  · simp at h
theorem fit_pf {l : List Sc} {ks : List K} (h : L2 FitK l ks) : l.all Sc.pf = true ∧ l.all Sc.one = true := by
  induction h with
  | nil => exact ⟨rfl, rfl⟩
  | @cons s k l m h1 h2 ih =>
    have : s.one = true ∧ s.pf = true := by
      cases s <;> first | exact ⟨rfl, rfl⟩ | (cases k <;> simp [FitK] at h1)
    exact ⟨by rw [List.all_cons, this.2, ih.1]; rfl, by rw [List.all_cons, this.1, ih.2]; rfl⟩
def ksI : List K := [.n .i64, .n .i64, .n .i64, .n .i64, .n .i64, .n .i64, .q, .q]
theorem fitI {l : List Sc} (h : L2 FitK l ksI) : ∃ op rd r1 r2 im cs aq rl, l = [.i op, .i rd, .i r1, .i r2, .i im, .i cs, .b aq, .b rl] := by
  obtain ⟨s0, t0, rfl, k0, g⟩ := fit_cons h
  obtain ⟨s1, t1, rfl, k1, g⟩ := fit_cons g
  obtain ⟨s2, t2, rfl, k2, g⟩ := fit_cons g
  obtain ⟨s3, t3, rfl, k3, g⟩ := fit_cons g
  obtain ⟨s4, t4, rfl, k4, g⟩ := fit_cons g
  obtain ⟨s5, t5, rfl, k5, g⟩ := fit_cons g
  obtain ⟨s6, t6, rfl, k6, g⟩ := fit_cons g
  obtain ⟨s7, t7, rfl, k7, g⟩ := fit_cons g
  obtain rfl := fit_nil g
  obtain ⟨x0, rfl, _⟩ := fk_i k0
  obtain ⟨x1, rfl, _⟩ := fk_i k1
  obtain ⟨x2, rfl, _⟩ := fk_i k2
  obtain ⟨x3, rfl, _⟩ := fk_i k3
  obtain ⟨x4, rfl, _⟩ := fk_i k4
  obtain ⟨x5, rfl, _⟩ := fk_i k5
  obtain ⟨x6, rfl⟩ := fk_q k6
  obtain ⟨x7, rfl⟩ := fk_q k7
  exact ⟨_, _, _, _, _, _, _, _, rfl⟩
def ksM : List K := (List.replicate 8 [K.q, .q, .q, .n .u64, .n .i64]).flatten
theorem sig_xlandslaw (avs : List AV) (H : AH) (h : SigA [.fl true ksI, .fl true (.n .u64 :: .q :: ksM)] avs H) : s_xlandslaw avs = some (.c (.b true)) := by
  obtain ⟨l0, r0, rfl, g0, h⟩ := sig_g h
  obtain ⟨l1, r1, rfl, g1, h⟩ := sig_g h
  obtain rfl := sig_nil h
  obtain ⟨op, rd, a1, a2, im, cs, aq, rl, rfl⟩ := fitI g0
  obtain ⟨s0, t0, rfl, k0, g2⟩ := fit_cons g1
  obtain ⟨s1, t1, rfl, k1, g3⟩ := fit_cons g2
  obtain ⟨d, rfl⟩ := fk_u k0
  obtain ⟨gd, rfl⟩ := fk_q k1
  rw [s_xlandslaw_eq, if_pos ⟨by rw [L2.length g3]; rfl, (fit_pf g3).1, (fit_pf g3).2⟩]
end
end Go.Proofs.Ytjlbgjhnhhihoaa
