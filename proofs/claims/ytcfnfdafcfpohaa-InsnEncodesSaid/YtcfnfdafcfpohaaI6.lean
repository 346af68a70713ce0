/- Layer 3: decoded, encoded: contracts. -/
import Derived.Test.YtcfnfdafcfpohaaI4b
import Derived.Test.YtcfnfdafcfpohaaI5
namespace Go.Proofs.Ytcfnfdafcfpohaa
open Go.Am
set_option linter.unusedSimpArgs false
set_option linter.unusedVariables false
noncomputable section

def rg (x : Int) : Prop := 0 ≤ x ∧ x ≤ 14
theorem rg_ite {c : Prop} [Decidable c] {a b : Int} (ha : rg a) (hb : rg b) : rg (if c then a else b) := by split <;> assumption
set_option maxRecDepth 100000 in
theorem fmt_rg (op : Int) : rg (fmtT op) := by
  unfold fmtT
  repeat' apply rg_ite
  all_goals exact ⟨by decide, by decide⟩
def s_icheck (args : List AV) : Option AV :=
  match args with
  | [.g [.i op, .i rd, .i r1, .i r2, .i im, .i cs, .b aq, .b rl]] => some (.c (.i (checkT (fmtT op) rd r1 r2 im cs aq rl)))
  | _ => none
theorem s_icheck_eq {op rd r1 r2 im cs : Int} {aq rl : Bool} : s_icheck [.g [.i op, .i rd, .i r1, .i r2, .i im, .i cs, .b aq, .b rl]] = some (.c (.i (checkT (fmtT op) rd r1 r2 im cs aq rl))) := rfl
theorem ok_icheck : PuOk Try.prog 13 s_icheck := pu_join ok_ichk0 fun a v h => by
  unfold s_icheck at h
  split at h
  · rename_i op rd r1 r2 im cs aq rl
    simp only [Option.some.injEq] at h
    subst h
    rcases f_cases (fmt_rg op) with e | e | e | e | e | e | e | e | e | e | e | e | e | e | e
    · exact ⟨_, ok_ichk0, by rw [s_ichk0_eq, if_pos e, e]⟩
    · exact ⟨_, ok_ichk1, by rw [s_ichk1_eq, if_pos e, e]⟩
    · exact ⟨_, ok_ichk2, by rw [s_ichk2_eq, if_pos e, e]⟩
    · exact ⟨_, ok_ichk3, by rw [s_ichk3_eq, if_pos e, e]⟩
    · exact ⟨_, ok_ichk4, by rw [s_ichk4_eq, if_pos e, e]⟩
    · exact ⟨_, ok_ichk5, by rw [s_ichk5_eq, if_pos e, e]⟩
    · exact ⟨_, ok_ichk6, by rw [s_ichk6_eq, if_pos e, e]⟩
    · exact ⟨_, ok_ichk7, by rw [s_ichk7_eq, if_pos e, e]⟩
    · exact ⟨_, ok_ichk8, by rw [s_ichk8_eq, if_pos e, e]⟩
    · exact ⟨_, ok_ichk9, by rw [s_ichk9_eq, if_pos e, e]⟩
    · exact ⟨_, ok_ichk10, by rw [s_ichk10_eq, if_pos e, e]⟩
    · exact ⟨_, ok_ichk11, by rw [s_ichk11_eq, if_pos e, e]⟩
    · exact ⟨_, ok_ichk12, by rw [s_ichk12_eq, if_pos e, e]⟩
    · exact ⟨_, ok_ichk13, by rw [s_ichk13_eq, if_pos e, e]⟩
    · exact ⟨_, ok_ichk14, by rw [s_ichk14_eq, if_pos e, e]⟩
  · simp at h
/-- an instruction's cells -/
def inC (op rd r1 r2 im cs : Int) (aq rl : Bool) : List Sc := [.i op, .i rd, .i r1, .i r2, .i im, .i cs, .b aq, .b rl]
def decC (op f : Int) (W : BitVec 64) : List Sc :=
  if op = 0 then inC 0 0 0 0 0 0 false false else
  if f = 5 ∨ f = 6 then inC op (cutU W 7 5).toInt 0 0 (immT f W) 0 false false else
  if f = 2 ∨ f = 7 ∨ f = 8 then inC op (cutU W 7 5).toInt (cutU W 15 5).toInt 0 (immT f W) 0 false false else
  if f = 1 then inC op (cutU W 7 5).toInt (cutU W 15 5).toInt (cutU W 20 5).toInt (immT f W) 0 false false else
  if f = 3 ∨ f = 4 ∨ f = 14 then inC op 0 (cutU W 15 5).toInt (cutU W 20 5).toInt (immT f W) 0 false false else
  if f = 9 ∨ f = 10 then inC op (cutU W 7 5).toInt (cutU W 15 5).toInt 0 (immT f W) (cutU W 20 12).toInt false false else
  if f = 12 ∨ f = 11 then inC op (cutU W 7 5).toInt (cutU W 15 5).toInt (cutU W 20 5).toInt (immT f W) 0 (decide ((cutU W 26 1).toInt = 1)) (decide ((cutU W 25 1).toInt = 1)) else
  inC op 0 0 0 (immT f W) 0 false false
def decT (w : Int) : List Sc := decC (findT w) (fmtT (findT w)) (BitVec.ofInt 64 w)
theorem decT_pf (w : Int) : (decT w).all Sc.pf = true := by
  unfold decT decC inC
  repeat' split
  all_goals rfl
set_option maxHeartbeats 8000000 in
def s_idecode (args : List AV) : Option AV :=
  match args with
  | [.c (.k .u32 w)] => some (.t [.g (decT w), .c (.b (!decide (findT w = 0)))])
  | _ => none
theorem s_idecode_eq {w} : s_idecode [.c (.k .u32 w)] = some (.t [.g (decT w), .c (.b (!decide (findT w = 0)))]) := rfl
set_option maxRecDepth 100000 in
set_option maxHeartbeats 2000000 in
theorem ok_idecode : PuOk Try.prog 8 s_idecode := by
  refine pu_ok (tab := [(24, .pu s_ifind), (22, .pu s_iformat), (25, .pu s_ifield), (16, .pu s_iimm)]) hmix (TabOk.cons (e := .pu s_ifind) ok_ifind (TabOk.cons (e := .pu s_iformat) ok_iformat (TabOk.cons (e := .pu s_ifield) ok_ifield (TabOk.cons (e := .pu s_iimm) ok_iimm TabOk.nil)))) Try.func8 rfl Try.results8 Try.ntmps8 (by kernel_rfl) (by kernel_rfl) ?_
  intro args v h
  unfold s_idecode at h
  split at h
  · rename_i w
    simp only [Option.some.injEq] at h; subst h
    have pc := decT_pf w
    refine ⟨by simp only [List.length_cons, List.length_nil]; decide, by first | rfl | simp only [List.all_cons, List.all_nil, AV.pf, Sc.pf, Bool.and_true, *], by first | rfl | simp only [List.all_cons, List.all_nil, AV.pf, Sc.pf, Bool.and_true, *], ?_⟩
    have r : inR 7 ∧ inR 5 ∧ inR 15 ∧ inR 20 ∧ inR 12 ∧ inR 26 ∧ inR 1 ∧ inR 25 := by
      repeat' apply And.intro
      all_goals exact inr_n (by decide) (by decide)
    obtain ⟨r1, r2, r3, r4, r5, r6, r7, r8⟩ := r
    unfold decT
    by_cases h0 : findT w = 0
    · (try simp (config := { maxSteps := 10000000 }) only [go_sem, List.reduceReplicate, BitVec.reduceOfInt, BitVec.reduceToNat, BitVec.reduceToInt, BitVec.reduceEq, BitVec.reduceLT, BitVec.reduceLE, BitVec.reduceAdd, BitVec.reduceSub, BitVec.reduceMul, BitVec.reduceUDiv, BitVec.reduceUMod, BitVec.reduceAnd, BitVec.reduceOr, BitVec.reduceXOr, BitVec.reduceNot, BitVec.reduceNeg, BitVec.reduceHShiftLeft, BitVec.reduceHShiftRight, Nat.reduceAdd, Nat.reduceMul, Nat.reduceSub, Nat.reduceBEq, Nat.reduceEqDiff, Nat.reduceLeDiff, Nat.reduceLT, Int.reduceLE, Int.reduceLT, Int.reduceAdd, Int.reduceSub, Int.reduceMul, Int.reduceNeg, Int.reduceToNat, Int.reduceEq, ↓reduceIte, reduceCtorEq, s_ifind_eq, s_iformat_eq, s_ifield_eq, s_iimm_eq, h0]; repeat (simp (disch := omega) only [w64_d, ipos, ineg, dpos, dneg]; try simp (config := { maxSteps := 10000000 }) only [go_sem, List.reduceReplicate, BitVec.reduceOfInt, BitVec.reduceToNat, BitVec.reduceToInt, BitVec.reduceEq, BitVec.reduceLT, BitVec.reduceLE, BitVec.reduceAdd, BitVec.reduceSub, BitVec.reduceMul, BitVec.reduceUDiv, BitVec.reduceUMod, BitVec.reduceAnd, BitVec.reduceOr, BitVec.reduceXOr, BitVec.reduceNot, BitVec.reduceNeg, BitVec.reduceHShiftLeft, BitVec.reduceHShiftRight, Nat.reduceAdd, Nat.reduceMul, Nat.reduceSub, Nat.reduceBEq, Nat.reduceEqDiff, Nat.reduceLeDiff, Nat.reduceLT, Int.reduceLE, Int.reduceLT, Int.reduceAdd, Int.reduceSub, Int.reduceMul, Int.reduceNeg, Int.reduceToNat, Int.reduceEq, ↓reduceIte, reduceCtorEq, s_ifind_eq, s_iformat_eq, s_ifield_eq, s_iimm_eq, h0]))
      rfl
    generalize hf : fmtT (findT w) = f
    (try simp (config := { maxSteps := 10000000 }) only [go_sem, List.reduceReplicate, BitVec.reduceOfInt, BitVec.reduceToNat, BitVec.reduceToInt, BitVec.reduceEq, BitVec.reduceLT, BitVec.reduceLE, BitVec.reduceAdd, BitVec.reduceSub, BitVec.reduceMul, BitVec.reduceUDiv, BitVec.reduceUMod, BitVec.reduceAnd, BitVec.reduceOr, BitVec.reduceXOr, BitVec.reduceNot, BitVec.reduceNeg, BitVec.reduceHShiftLeft, BitVec.reduceHShiftRight, Nat.reduceAdd, Nat.reduceMul, Nat.reduceSub, Nat.reduceBEq, Nat.reduceEqDiff, Nat.reduceLeDiff, Nat.reduceLT, Int.reduceLE, Int.reduceLT, Int.reduceAdd, Int.reduceSub, Int.reduceMul, Int.reduceNeg, Int.reduceToNat, Int.reduceEq, ↓reduceIte, reduceCtorEq, s_ifind_eq, s_iformat_eq, s_ifield_eq, s_iimm_eq, h0, hf, r1, r2, r3, r4]; repeat (simp (disch := omega) only [w64_d, ipos, ineg, dpos, dneg]; try simp (config := { maxSteps := 10000000 }) only [go_sem, List.reduceReplicate, BitVec.reduceOfInt, BitVec.reduceToNat, BitVec.reduceToInt, BitVec.reduceEq, BitVec.reduceLT, BitVec.reduceLE, BitVec.reduceAdd, BitVec.reduceSub, BitVec.reduceMul, BitVec.reduceUDiv, BitVec.reduceUMod, BitVec.reduceAnd, BitVec.reduceOr, BitVec.reduceXOr, BitVec.reduceNot, BitVec.reduceNeg, BitVec.reduceHShiftLeft, BitVec.reduceHShiftRight, Nat.reduceAdd, Nat.reduceMul, Nat.reduceSub, Nat.reduceBEq, Nat.reduceEqDiff, Nat.reduceLeDiff, Nat.reduceLT, Int.reduceLE, Int.reduceLT, Int.reduceAdd, Int.reduceSub, Int.reduceMul, Int.reduceNeg, Int.reduceToNat, Int.reduceEq, ↓reduceIte, reduceCtorEq, s_ifind_eq, s_iformat_eq, s_ifield_eq, s_iimm_eq, h0, hf, r1, r2, r3, r4]))
    repeat' (first
      | (refine cnd_by (fun h => ?_) (fun h => ?_) <;> (try simp only [decide_eq_true_eq, decide_eq_false_iff_not, Bool.not_eq_true', Bool.not_eq_false', Bool.not_eq_true, Bool.not_eq_false, Bool.and_eq_true, beq_iff_eq, beq_eq_false_iff_ne, ne_eq, Bool.or_eq_true] at h) <;> ((try simp (config := { maxSteps := 10000000 }) only [go_sem, List.reduceReplicate, BitVec.reduceOfInt, BitVec.reduceToNat, BitVec.reduceToInt, BitVec.reduceEq, BitVec.reduceLT, BitVec.reduceLE, BitVec.reduceAdd, BitVec.reduceSub, BitVec.reduceMul, BitVec.reduceUDiv, BitVec.reduceUMod, BitVec.reduceAnd, BitVec.reduceOr, BitVec.reduceXOr, BitVec.reduceNot, BitVec.reduceNeg, BitVec.reduceHShiftLeft, BitVec.reduceHShiftRight, Nat.reduceAdd, Nat.reduceMul, Nat.reduceSub, Nat.reduceBEq, Nat.reduceEqDiff, Nat.reduceLeDiff, Nat.reduceLT, Int.reduceLE, Int.reduceLT, Int.reduceAdd, Int.reduceSub, Int.reduceMul, Int.reduceNeg, Int.reduceToNat, Int.reduceEq, ↓reduceIte, reduceCtorEq, s_ifind_eq, s_iformat_eq, s_ifield_eq, s_iimm_eq, r1, r2, r3, r4, r5, r6, r7, r8, h]; repeat (simp (disch := omega) only [w64_d, ipos, ineg, dpos, dneg]; try simp (config := { maxSteps := 10000000 }) only [go_sem, List.reduceReplicate, BitVec.reduceOfInt, BitVec.reduceToNat, BitVec.reduceToInt, BitVec.reduceEq, BitVec.reduceLT, BitVec.reduceLE, BitVec.reduceAdd, BitVec.reduceSub, BitVec.reduceMul, BitVec.reduceUDiv, BitVec.reduceUMod, BitVec.reduceAnd, BitVec.reduceOr, BitVec.reduceXOr, BitVec.reduceNot, BitVec.reduceNeg, BitVec.reduceHShiftLeft, BitVec.reduceHShiftRight, Nat.reduceAdd, Nat.reduceMul, Nat.reduceSub, Nat.reduceBEq, Nat.reduceEqDiff, Nat.reduceLeDiff, Nat.reduceLT, Int.reduceLE, Int.reduceLT, Int.reduceAdd, Int.reduceSub, Int.reduceMul, Int.reduceNeg, Int.reduceToNat, Int.reduceEq, ↓reduceIte, reduceCtorEq, s_ifind_eq, s_iformat_eq, s_ifield_eq, s_iimm_eq, r1, r2, r3, r4, r5, r6, r7, r8, h]))))
      | (refine grd_by (fun h => ?_) (fun h => ?_) <;> (try simp only [decide_eq_true_eq, decide_eq_false_iff_not, Bool.not_eq_true', Bool.not_eq_false', Bool.not_eq_true, Bool.not_eq_false, Bool.and_eq_true, beq_iff_eq, beq_eq_false_iff_ne, ne_eq, Bool.or_eq_true] at h) <;> ((try simp (config := { maxSteps := 10000000 }) only [go_sem, List.reduceReplicate, BitVec.reduceOfInt, BitVec.reduceToNat, BitVec.reduceToInt, BitVec.reduceEq, BitVec.reduceLT, BitVec.reduceLE, BitVec.reduceAdd, BitVec.reduceSub, BitVec.reduceMul, BitVec.reduceUDiv, BitVec.reduceUMod, BitVec.reduceAnd, BitVec.reduceOr, BitVec.reduceXOr, BitVec.reduceNot, BitVec.reduceNeg, BitVec.reduceHShiftLeft, BitVec.reduceHShiftRight, Nat.reduceAdd, Nat.reduceMul, Nat.reduceSub, Nat.reduceBEq, Nat.reduceEqDiff, Nat.reduceLeDiff, Nat.reduceLT, Int.reduceLE, Int.reduceLT, Int.reduceAdd, Int.reduceSub, Int.reduceMul, Int.reduceNeg, Int.reduceToNat, Int.reduceEq, ↓reduceIte, reduceCtorEq, s_ifind_eq, s_iformat_eq, s_ifield_eq, s_iimm_eq, r1, r2, r3, r4, r5, r6, r7, r8, h]; repeat (simp (disch := omega) only [w64_d, ipos, ineg, dpos, dneg]; try simp (config := { maxSteps := 10000000 }) only [go_sem, List.reduceReplicate, BitVec.reduceOfInt, BitVec.reduceToNat, BitVec.reduceToInt, BitVec.reduceEq, BitVec.reduceLT, BitVec.reduceLE, BitVec.reduceAdd, BitVec.reduceSub, BitVec.reduceMul, BitVec.reduceUDiv, BitVec.reduceUMod, BitVec.reduceAnd, BitVec.reduceOr, BitVec.reduceXOr, BitVec.reduceNot, BitVec.reduceNeg, BitVec.reduceHShiftLeft, BitVec.reduceHShiftRight, Nat.reduceAdd, Nat.reduceMul, Nat.reduceSub, Nat.reduceBEq, Nat.reduceEqDiff, Nat.reduceLeDiff, Nat.reduceLT, Int.reduceLE, Int.reduceLT, Int.reduceAdd, Int.reduceSub, Int.reduceMul, Int.reduceNeg, Int.reduceToNat, Int.reduceEq, ↓reduceIte, reduceCtorEq, s_ifind_eq, s_iformat_eq, s_ifield_eq, s_iimm_eq, r1, r2, r3, r4, r5, r6, r7, r8, h]))))
      | (refine grdd_by (fun h => ?_) (fun h => ?_) <;> (try simp only [decide_eq_true_eq, decide_eq_false_iff_not, Bool.not_eq_true', Bool.not_eq_false', Bool.not_eq_true, Bool.not_eq_false, Bool.and_eq_true, beq_iff_eq, beq_eq_false_iff_ne, ne_eq, Bool.or_eq_true] at h) <;> ((try simp (config := { maxSteps := 10000000 }) only [go_sem, List.reduceReplicate, BitVec.reduceOfInt, BitVec.reduceToNat, BitVec.reduceToInt, BitVec.reduceEq, BitVec.reduceLT, BitVec.reduceLE, BitVec.reduceAdd, BitVec.reduceSub, BitVec.reduceMul, BitVec.reduceUDiv, BitVec.reduceUMod, BitVec.reduceAnd, BitVec.reduceOr, BitVec.reduceXOr, BitVec.reduceNot, BitVec.reduceNeg, BitVec.reduceHShiftLeft, BitVec.reduceHShiftRight, Nat.reduceAdd, Nat.reduceMul, Nat.reduceSub, Nat.reduceBEq, Nat.reduceEqDiff, Nat.reduceLeDiff, Nat.reduceLT, Int.reduceLE, Int.reduceLT, Int.reduceAdd, Int.reduceSub, Int.reduceMul, Int.reduceNeg, Int.reduceToNat, Int.reduceEq, ↓reduceIte, reduceCtorEq, s_ifind_eq, s_iformat_eq, s_ifield_eq, s_iimm_eq, r1, r2, r3, r4, r5, r6, r7, r8, h]; repeat (simp (disch := omega) only [w64_d, ipos, ineg, dpos, dneg]; try simp (config := { maxSteps := 10000000 }) only [go_sem, List.reduceReplicate, BitVec.reduceOfInt, BitVec.reduceToNat, BitVec.reduceToInt, BitVec.reduceEq, BitVec.reduceLT, BitVec.reduceLE, BitVec.reduceAdd, BitVec.reduceSub, BitVec.reduceMul, BitVec.reduceUDiv, BitVec.reduceUMod, BitVec.reduceAnd, BitVec.reduceOr, BitVec.reduceXOr, BitVec.reduceNot, BitVec.reduceNeg, BitVec.reduceHShiftLeft, BitVec.reduceHShiftRight, Nat.reduceAdd, Nat.reduceMul, Nat.reduceSub, Nat.reduceBEq, Nat.reduceEqDiff, Nat.reduceLeDiff, Nat.reduceLT, Int.reduceLE, Int.reduceLT, Int.reduceAdd, Int.reduceSub, Int.reduceMul, Int.reduceNeg, Int.reduceToNat, Int.reduceEq, ↓reduceIte, reduceCtorEq, s_ifind_eq, s_iformat_eq, s_ifield_eq, s_iimm_eq, r1, r2, r3, r4, r5, r6, r7, r8, h])))))
    all_goals simp [decC, inC, *]
  · simp at h
def encT (op rd r1 r2 im cs : Int) (aq rl : Bool) : Int :=
  if checkT (fmtT op) rd r1 r2 im cs aq rl = 0 then
    let w := orK (fixV op) (orK (orK (orK (orK (layT (fmtT op) (BitVec.ofInt 64 im)) (shlK (IntKind.u32.wrap rd) 7)) (shlK (IntKind.u32.wrap r1) 15)) (shlK (IntKind.u32.wrap r2) 20)) (shlK (IntKind.u32.wrap cs) 20))
    let w := if aq = true then orK w 67108864 else w
    if rl = true then orK w 33554432 else w
  else 0
def s_iencode (args : List AV) : Option AV :=
  match args with
  | [.g [.i op, .i rd, .i r1, .i r2, .i im, .i cs, .b aq, .b rl]] => some (.t [.c (.k .u32 (encT op rd r1 r2 im cs aq rl)), .c (.i (checkT (fmtT op) rd r1 r2 im cs aq rl))])
  | _ => none
theorem s_iencode_eq {op rd r1 r2 im cs aq rl} : s_iencode [.g [.i op, .i rd, .i r1, .i r2, .i im, .i cs, .b aq, .b rl]] = some (.t [.c (.k .u32 (encT op rd r1 r2 im cs aq rl)), .c (.i (checkT (fmtT op) rd r1 r2 im cs aq rl))]) := rfl
set_option maxRecDepth 100000 in
set_option maxHeartbeats 2000000 in
theorem ok_iencode : PuOk Try.prog 11 s_iencode := by
  refine pu_ok (tab := [(13, .pu s_icheck), (21, .pu s_ifixed), (22, .pu s_iformat), (18, .pu s_ilay)]) hmix (TabOk.cons (e := .pu s_icheck) ok_icheck (TabOk.cons (e := .pu s_ifixed) ok_ifixed (TabOk.cons (e := .pu s_iformat) ok_iformat (TabOk.cons (e := .pu s_ilay) ok_ilay TabOk.nil)))) Try.func11 rfl Try.results11 Try.ntmps11 (by kernel_rfl) (by kernel_rfl) ?_
  intro args v h
  unfold s_iencode at h
  split at h
  · rename_i op rd r1 r2 im cs aq rl
    simp only [Option.some.injEq] at h; subst h
    refine ⟨by simp only [List.length_cons, List.length_nil]; decide, rfl, rfl, ?_⟩
    by_cases h0 : checkT (fmtT op) rd r1 r2 im cs aq rl = 0
    all_goals cases aq
    all_goals cases rl
    all_goals (try simp (config := { maxSteps := 10000000 }) only [go_sem, List.reduceReplicate, BitVec.reduceOfInt, BitVec.reduceToNat, BitVec.reduceToInt, BitVec.reduceEq, BitVec.reduceLT, BitVec.reduceLE, BitVec.reduceAdd, BitVec.reduceSub, BitVec.reduceMul, BitVec.reduceUDiv, BitVec.reduceUMod, BitVec.reduceAnd, BitVec.reduceOr, BitVec.reduceXOr, BitVec.reduceNot, BitVec.reduceNeg, BitVec.reduceHShiftLeft, BitVec.reduceHShiftRight, Nat.reduceAdd, Nat.reduceMul, Nat.reduceSub, Nat.reduceBEq, Nat.reduceEqDiff, Nat.reduceLeDiff, Nat.reduceLT, Int.reduceLE, Int.reduceLT, Int.reduceAdd, Int.reduceSub, Int.reduceMul, Int.reduceNeg, Int.reduceToNat, Int.reduceEq, ↓reduceIte, reduceCtorEq, s_icheck_eq, s_ifixed_eq, s_iformat_eq, s_ilay_eq, h0, encT]; repeat (simp (disch := omega) only [w64_d, ipos, ineg, dpos, dneg]; try simp (config := { maxSteps := 10000000 }) only [go_sem, List.reduceReplicate, BitVec.reduceOfInt, BitVec.reduceToNat, BitVec.reduceToInt, BitVec.reduceEq, BitVec.reduceLT, BitVec.reduceLE, BitVec.reduceAdd, BitVec.reduceSub, BitVec.reduceMul, BitVec.reduceUDiv, BitVec.reduceUMod, BitVec.reduceAnd, BitVec.reduceOr, BitVec.reduceXOr, BitVec.reduceNot, BitVec.reduceNeg, BitVec.reduceHShiftLeft, BitVec.reduceHShiftRight, Nat.reduceAdd, Nat.reduceMul, Nat.reduceSub, Nat.reduceBEq, Nat.reduceEqDiff, Nat.reduceLeDiff, Nat.reduceLT, Int.reduceLE, Int.reduceLT, Int.reduceAdd, Int.reduceSub, Int.reduceMul, Int.reduceNeg, Int.reduceToNat, Int.reduceEq, ↓reduceIte, reduceCtorEq, s_icheck_eq, s_ifixed_eq, s_iformat_eq, s_ilay_eq, h0, encT]))
  · simp at h
end
end Go.Proofs.Ytcfnfdafcfpohaa
