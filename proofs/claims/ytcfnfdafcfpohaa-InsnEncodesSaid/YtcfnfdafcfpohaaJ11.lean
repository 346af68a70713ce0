/- Layer 3: the reference encodes: contracts; the law InsnEncodes. -/
import Derived.Test.YtcfnfdafcfpohaaJ9
import Derived.Test.YtcfnfdafcfpohaaJ10
namespace Go.Proofs.Ytcfnfdafcfpohaa
open Go.Am
set_option linter.unusedSimpArgs false
set_option linter.unusedVariables false
noncomputable section

def s_rchk0 (args : List AV) : Option AV :=
  match args with
  | [.g [.i op, .i rd, .i r1, .i r2, .i im, .i cs, .b aq, .b rl]] => if fmtT op = 0 then some (.c (.i (checkT 0 rd r1 r2 im cs aq rl))) else none
  | _ => none
theorem s_rchk0_eq {op rd r1 r2 im cs aq rl} : s_rchk0 [.g [.i op, .i rd, .i r1, .i r2, .i im, .i cs, .b aq, .b rl]] = if fmtT op = 0 then some (.c (.i (checkT 0 rd r1 r2 im cs aq rl))) else none := rfl
set_option maxRecDepth 100000 in
set_option maxHeartbeats 2000000 in
theorem ok_rchk0 : PuOk Try.prog 14 s_rchk0 := by
  refine pu_ok (tab := [(20, .pu s_rfind), (28, .pu s_rhas), (19, .pu s_rlay), (17, .pu s_rimm)]) hmix (TabOk.cons (e := .pu s_rfind) ok_rfind (TabOk.cons (e := .pu s_rhas) ok_rhas (TabOk.cons (e := .pu s_rlay) ok_rlay (TabOk.cons (e := .pu s_rimm) ok_rimm TabOk.nil)))) Try.func14 rfl Try.results14 Try.ntmps14 (by kernel_rfl) (by kernel_rfl) ?_
  intro args v h
  unfold s_rchk0 at h
  split at h
  · rename_i op rd r1 r2 im cs aq rl
    split at h
    · rename_i hc
      simp only [Option.some.injEq] at h; subst h
      refine ⟨by simp only [List.length_cons, List.length_nil]; decide, rfl, rfl, ?_⟩
      obtain ⟨g, g1, g2, p, g3, _⟩ := rowT_eq op
      obtain rfl : g = 0 := by omega
      have e : checkT 0 rd r1 r2 im cs aq rl = 1 := if_pos rfl
      have ez : (fn 0 = (⟨#[]⟩ : ByteArray)) = True := eq_true rfl
      rw [e]
      (try simp (config := { maxSteps := 10000000 }) only [go_sem, List.reduceReplicate, BitVec.reduceOfInt, BitVec.reduceToNat, BitVec.reduceToInt, BitVec.reduceEq, BitVec.reduceLT, BitVec.reduceLE, BitVec.reduceAdd, BitVec.reduceSub, BitVec.reduceMul, BitVec.reduceUDiv, BitVec.reduceUMod, BitVec.reduceAnd, BitVec.reduceOr, BitVec.reduceXOr, BitVec.reduceNot, BitVec.reduceNeg, BitVec.reduceHShiftLeft, BitVec.reduceHShiftRight, Nat.reduceAdd, Nat.reduceMul, Nat.reduceSub, Nat.reduceBEq, Nat.reduceEqDiff, Nat.reduceLeDiff, Nat.reduceLT, Int.reduceLE, Int.reduceLT, Int.reduceAdd, Int.reduceSub, Int.reduceMul, Int.reduceNeg, Int.reduceToNat, Int.reduceEq, ↓reduceIte, reduceCtorEq, s_rfind_eq, s_rhas_eq, s_rlay_eq, s_rimm_eq, g3, ez]; repeat (simp (disch := omega) only [w64_d, ipos, ineg, dpos, dneg]; try simp (config := { maxSteps := 10000000 }) only [go_sem, List.reduceReplicate, BitVec.reduceOfInt, BitVec.reduceToNat, BitVec.reduceToInt, BitVec.reduceEq, BitVec.reduceLT, BitVec.reduceLE, BitVec.reduceAdd, BitVec.reduceSub, BitVec.reduceMul, BitVec.reduceUDiv, BitVec.reduceUMod, BitVec.reduceAnd, BitVec.reduceOr, BitVec.reduceXOr, BitVec.reduceNot, BitVec.reduceNeg, BitVec.reduceHShiftLeft, BitVec.reduceHShiftRight, Nat.reduceAdd, Nat.reduceMul, Nat.reduceSub, Nat.reduceBEq, Nat.reduceEqDiff, Nat.reduceLeDiff, Nat.reduceLT, Int.reduceLE, Int.reduceLT, Int.reduceAdd, Int.reduceSub, Int.reduceMul, Int.reduceNeg, Int.reduceToNat, Int.reduceEq, ↓reduceIte, reduceCtorEq, s_rfind_eq, s_rhas_eq, s_rlay_eq, s_rimm_eq, g3, ez]))
    · simp at h
  · simp at h
def s_rcheck (args : List AV) : Option AV :=
  match args with
  | [.g [.i op, .i rd, .i r1, .i r2, .i im, .i cs, .b aq, .b rl]] => some (.c (.i (checkT (fmtT op) rd r1 r2 im cs aq rl)))
  | _ => none
theorem s_rcheck_eq {op rd r1 r2 im cs : Int} {aq rl : Bool} : s_rcheck [.g [.i op, .i rd, .i r1, .i r2, .i im, .i cs, .b aq, .b rl]] = some (.c (.i (checkT (fmtT op) rd r1 r2 im cs aq rl))) := rfl
theorem ok_rcheck : PuOk Try.prog 14 s_rcheck := pu_join ok_rchk0 fun a v h => by
  unfold s_rcheck at h
  split at h
  · rename_i op rd r1 r2 im cs aq rl
    simp only [Option.some.injEq] at h
    subst h
    rcases f_cases (fmt_rg op) with e | e | e | e | e | e | e | e | e | e | e | e | e | e | e
    · exact ⟨_, ok_rchk0, by rw [s_rchk0_eq, if_pos e, e]⟩
    · exact ⟨_, ok_rchk1, by rw [s_rchk1_eq, if_pos e, e]⟩
    · exact ⟨_, ok_rchk2, by rw [s_rchk2_eq, if_pos e, e]⟩
    · exact ⟨_, ok_rchk3, by rw [s_rchk3_eq, if_pos e, e]⟩
    · exact ⟨_, ok_rchk4, by rw [s_rchk4_eq, if_pos e, e]⟩
    · exact ⟨_, ok_rchk5, by rw [s_rchk5_eq, if_pos e, e]⟩
    · exact ⟨_, ok_rchk6, by rw [s_rchk6_eq, if_pos e, e]⟩
    · exact ⟨_, ok_rchk7, by rw [s_rchk7_eq, if_pos e, e]⟩
    · exact ⟨_, ok_rchk8, by rw [s_rchk8_eq, if_pos e, e]⟩
    · exact ⟨_, ok_rchk9, by rw [s_rchk9_eq, if_pos e, e]⟩
    · exact ⟨_, ok_rchk10, by rw [s_rchk10_eq, if_pos e, e]⟩
    · exact ⟨_, ok_rchk11, by rw [s_rchk11_eq, if_pos e, e]⟩
    · exact ⟨_, ok_rchk12, by rw [s_rchk12_eq, if_pos e, e]⟩
    · exact ⟨_, ok_rchk13, by rw [s_rchk13_eq, if_pos e, e]⟩
    · exact ⟨_, ok_rchk14, by rw [s_rchk14_eq, if_pos e, e]⟩
  · simp at h
set_option maxHeartbeats 8000000 in
def s_rencode (args : List AV) : Option AV :=
  match args with
  | [.g [.i op, .i rd, .i r1, .i r2, .i im, .i cs, .b aq, .b rl]] => some (.t [.c (.u (BitVec.ofInt 64 (encT op rd r1 r2 im cs aq rl))), .c (.i (checkT (fmtT op) rd r1 r2 im cs aq rl))])
  | _ => none
theorem s_rencode_eq {op rd r1 r2 im cs aq rl} : s_rencode [.g [.i op, .i rd, .i r1, .i r2, .i im, .i cs, .b aq, .b rl]] = some (.t [.c (.u (BitVec.ofInt 64 (encT op rd r1 r2 im cs aq rl))), .c (.i (checkT (fmtT op) rd r1 r2 im cs aq rl))]) := rfl
set_option maxRecDepth 100000 in
set_option maxHeartbeats 2000000 in
theorem ok_rencode : PuOk Try.prog 12 s_rencode := by
  refine pu_ok (tab := [(14, .pu s_rcheck), (20, .pu s_rfind), (19, .pu s_rlay)]) hmix (TabOk.cons (e := .pu s_rcheck) ok_rcheck (TabOk.cons (e := .pu s_rfind) ok_rfind (TabOk.cons (e := .pu s_rlay) ok_rlay TabOk.nil))) Try.func12 rfl Try.results12 Try.ntmps12 (by kernel_rfl) (by kernel_rfl) ?_
  intro args v h
  unfold s_rencode at h
  split at h
  · rename_i op rd r1 r2 im cs aq rl
    simp only [Option.some.injEq] at h; subst h
    refine ⟨by simp only [List.length_cons, List.length_nil]; decide, rfl, rfl, ?_⟩
    by_cases h0 : checkT (fmtT op) rd r1 r2 im cs aq rl = 0
    rotate_left
    · have z : BitVec.ofInt 64 (encT op rd r1 r2 im cs aq rl) = 0#64 := by rw [enc_no h0]; rfl
      rw [z]
      (try simp (config := { maxSteps := 10000000 }) only [go_sem, List.reduceReplicate, BitVec.reduceOfInt, BitVec.reduceToNat, BitVec.reduceToInt, BitVec.reduceEq, BitVec.reduceLT, BitVec.reduceLE, BitVec.reduceAdd, BitVec.reduceSub, BitVec.reduceMul, BitVec.reduceUDiv, BitVec.reduceUMod, BitVec.reduceAnd, BitVec.reduceOr, BitVec.reduceXOr, BitVec.reduceNot, BitVec.reduceNeg, BitVec.reduceHShiftLeft, BitVec.reduceHShiftRight, Nat.reduceAdd, Nat.reduceMul, Nat.reduceSub, Nat.reduceBEq, Nat.reduceEqDiff, Nat.reduceLeDiff, Nat.reduceLT, Int.reduceLE, Int.reduceLT, Int.reduceAdd, Int.reduceSub, Int.reduceMul, Int.reduceNeg, Int.reduceToNat, Int.reduceEq, ↓reduceIte, reduceCtorEq, s_rcheck_eq, s_rfind_eq, s_rlay_eq, h0]; repeat (simp (disch := omega) only [w64_d, ipos, ineg, dpos, dneg]; try simp (config := { maxSteps := 10000000 }) only [go_sem, List.reduceReplicate, BitVec.reduceOfInt, BitVec.reduceToNat, BitVec.reduceToInt, BitVec.reduceEq, BitVec.reduceLT, BitVec.reduceLE, BitVec.reduceAdd, BitVec.reduceSub, BitVec.reduceMul, BitVec.reduceUDiv, BitVec.reduceUMod, BitVec.reduceAnd, BitVec.reduceOr, BitVec.reduceXOr, BitVec.reduceNot, BitVec.reduceNeg, BitVec.reduceHShiftLeft, BitVec.reduceHShiftRight, Nat.reduceAdd, Nat.reduceMul, Nat.reduceSub, Nat.reduceBEq, Nat.reduceEqDiff, Nat.reduceLeDiff, Nat.reduceLT, Int.reduceLE, Int.reduceLT, Int.reduceAdd, Int.reduceSub, Int.reduceMul, Int.reduceNeg, Int.reduceToNat, Int.reduceEq, ↓reduceIte, reduceCtorEq, s_rcheck_eq, s_rfind_eq, s_rlay_eq, h0]))
    have se := sum_eq h0
    have ho := fmt_in (by rw [check_iff] at h0; exact h0.1 : fmtT op ≠ 0)
    obtain ⟨g, g1, g2, p, g3, _⟩ := rowT_eq op
    have nf := nmF_fn g1
    have rl' := rlay_eq g1 (BitVec.ofInt 64 im)
    rw [← g2] at rl'
    have f6 := fix_64 (op := op) (by omega)
    rw [f6] at g3
    rw [← se]
    unfold sumT
    cases aq <;> cases rl
    all_goals (try simp (config := { maxSteps := 10000000 }) only [go_sem, List.reduceReplicate, BitVec.reduceOfInt, BitVec.reduceToNat, BitVec.reduceToInt, BitVec.reduceEq, BitVec.reduceLT, BitVec.reduceLE, BitVec.reduceAdd, BitVec.reduceSub, BitVec.reduceMul, BitVec.reduceUDiv, BitVec.reduceUMod, BitVec.reduceAnd, BitVec.reduceOr, BitVec.reduceXOr, BitVec.reduceNot, BitVec.reduceNeg, BitVec.reduceHShiftLeft, BitVec.reduceHShiftRight, Nat.reduceAdd, Nat.reduceMul, Nat.reduceSub, Nat.reduceBEq, Nat.reduceEqDiff, Nat.reduceLeDiff, Nat.reduceLT, Int.reduceLE, Int.reduceLT, Int.reduceAdd, Int.reduceSub, Int.reduceMul, Int.reduceNeg, Int.reduceToNat, Int.reduceEq, ↓reduceIte, reduceCtorEq, s_rcheck_eq, s_rfind_eq, s_rlay_eq, h0, g3, nf, g1, rl']; repeat (simp (disch := omega) only [w64_d, ipos, ineg, dpos, dneg]; try simp (config := { maxSteps := 10000000 }) only [go_sem, List.reduceReplicate, BitVec.reduceOfInt, BitVec.reduceToNat, BitVec.reduceToInt, BitVec.reduceEq, BitVec.reduceLT, BitVec.reduceLE, BitVec.reduceAdd, BitVec.reduceSub, BitVec.reduceMul, BitVec.reduceUDiv, BitVec.reduceUMod, BitVec.reduceAnd, BitVec.reduceOr, BitVec.reduceXOr, BitVec.reduceNot, BitVec.reduceNeg, BitVec.reduceHShiftLeft, BitVec.reduceHShiftRight, Nat.reduceAdd, Nat.reduceMul, Nat.reduceSub, Nat.reduceBEq, Nat.reduceEqDiff, Nat.reduceLeDiff, Nat.reduceLT, Int.reduceLE, Int.reduceLT, Int.reduceAdd, Int.reduceSub, Int.reduceMul, Int.reduceNeg, Int.reduceToNat, Int.reduceEq, ↓reduceIte, reduceCtorEq, s_rcheck_eq, s_rfind_eq, s_rlay_eq, h0, g3, nf, g1, rl']))
    all_goals simp
  · simp at h
set_option maxHeartbeats 8000000 in
def s_rencodes (args : List AV) : Option AV :=
  match args with
  | [.g [.i op, .i rd, .i r1, .i r2, .i im, .i cs, .b aq, .b rl]] => some (.c (.b true))
  | _ => none
theorem s_rencodes_eq {op rd r1 r2 im cs aq rl} : s_rencodes [.g [.i op, .i rd, .i r1, .i r2, .i im, .i cs, .b aq, .b rl]] = some (.c (.b true)) := rfl
set_option maxRecDepth 100000 in
set_option maxHeartbeats 2000000 in
theorem ok_rencodes : PuOk Try.prog 4 s_rencodes := by
  refine pu_ok (tab := [(11, .pu s_iencode), (13, .pu s_icheck), (12, .pu s_rencode), (14, .pu s_rcheck), (10, .pu s_live3)]) hmix (TabOk.cons (e := .pu s_iencode) ok_iencode (TabOk.cons (e := .pu s_icheck) ok_icheck (TabOk.cons (e := .pu s_rencode) ok_rencode (TabOk.cons (e := .pu s_rcheck) ok_rcheck (TabOk.cons (e := .pu s_live3) ok_live3 TabOk.nil))))) Try.func4 rfl Try.results4 Try.ntmps4 (by kernel_rfl) (by kernel_rfl) ?_
  intro args v h
  unfold s_rencodes at h
  split at h
  · rename_i op rd r1 r2 im cs aq rl
    simp only [Option.some.injEq] at h; subst h
    refine ⟨by simp only [List.length_cons, List.length_nil]; decide, rfl, rfl, ?_⟩
    (try simp (config := { maxSteps := 10000000 }) only [go_sem, List.reduceReplicate, BitVec.reduceOfInt, BitVec.reduceToNat, BitVec.reduceToInt, BitVec.reduceEq, BitVec.reduceLT, BitVec.reduceLE, BitVec.reduceAdd, BitVec.reduceSub, BitVec.reduceMul, BitVec.reduceUDiv, BitVec.reduceUMod, BitVec.reduceAnd, BitVec.reduceOr, BitVec.reduceXOr, BitVec.reduceNot, BitVec.reduceNeg, BitVec.reduceHShiftLeft, BitVec.reduceHShiftRight, Nat.reduceAdd, Nat.reduceMul, Nat.reduceSub, Nat.reduceBEq, Nat.reduceEqDiff, Nat.reduceLeDiff, Nat.reduceLT, Int.reduceLE, Int.reduceLT, Int.reduceAdd, Int.reduceSub, Int.reduceMul, Int.reduceNeg, Int.reduceToNat, Int.reduceEq, ↓reduceIte, reduceCtorEq, s_iencode_eq, s_icheck_eq, s_rencode_eq, s_rcheck_eq, s_live3_eq]; repeat (simp (disch := omega) only [w64_d, ipos, ineg, dpos, dneg]; try simp (config := { maxSteps := 10000000 }) only [go_sem, List.reduceReplicate, BitVec.reduceOfInt, BitVec.reduceToNat, BitVec.reduceToInt, BitVec.reduceEq, BitVec.reduceLT, BitVec.reduceLE, BitVec.reduceAdd, BitVec.reduceSub, BitVec.reduceMul, BitVec.reduceUDiv, BitVec.reduceUMod, BitVec.reduceAnd, BitVec.reduceOr, BitVec.reduceXOr, BitVec.reduceNot, BitVec.reduceNeg, BitVec.reduceHShiftLeft, BitVec.reduceHShiftRight, Nat.reduceAdd, Nat.reduceMul, Nat.reduceSub, Nat.reduceBEq, Nat.reduceEqDiff, Nat.reduceLeDiff, Nat.reduceLT, Int.reduceLE, Int.reduceLT, Int.reduceAdd, Int.reduceSub, Int.reduceMul, Int.reduceNeg, Int.reduceToNat, Int.reduceEq, ↓reduceIte, reduceCtorEq, s_iencode_eq, s_icheck_eq, s_rencode_eq, s_rcheck_eq, s_live3_eq]))
  · simp at h
theorem sig_rencodes (avs : List AV) (H : AH) (h : SigA [.fl true [.n .i64, .n .i64, .n .i64, .n .i64, .n .i64, .n .i64, .q, .q]] avs H) : (fun a (_ : AH) => s_rencodes a) avs H = some (.c (.b true)) := by
  obtain ⟨l, r1, rfl, g, h2⟩ := sig_g h
  obtain ⟨x1, l1, rfl, k1, g1⟩ := fit_cons g
  obtain ⟨x2, l2, rfl, k2, g2⟩ := fit_cons g1
  obtain ⟨x3, l3, rfl, k3, g3⟩ := fit_cons g2
  obtain ⟨x4, l4, rfl, k4, g4⟩ := fit_cons g3
  obtain ⟨x5, l5, rfl, k5, g5⟩ := fit_cons g4
  obtain ⟨x6, l6, rfl, k6, g6⟩ := fit_cons g5
  obtain ⟨x7, l7, rfl, k7, g7⟩ := fit_cons g6
  obtain ⟨x8, l8, rfl, k8, g8⟩ := fit_cons g7
  obtain rfl := fit_nil g8
  obtain ⟨x1, rfl, _, _⟩ := fk_i k1
  obtain ⟨x2, rfl, _, _⟩ := fk_i k2
  obtain ⟨x3, rfl, _, _⟩ := fk_i k3
  obtain ⟨x4, rfl, _, _⟩ := fk_i k4
  obtain ⟨x5, rfl, _, _⟩ := fk_i k5
  obtain ⟨x6, rfl, _, _⟩ := fk_i k6
  obtain ⟨x7, rfl⟩ := fk_q k7
  obtain ⟨x8, rfl⟩ := fk_q k8
  obtain rfl := sig_nil h2
  exact s_rencodes_eq
end
end Go.Proofs.Ytcfnfdafcfpohaa
