/- Layer 30: the document's answer; the law of what instructions do. -/
import Derived.Test.YtjlbgjhnhhihoaaGreatEx4
import Derived.Test.YtjlbgjhnhhihoaaGreatEx6
namespace Go.Proofs.YtjlbgjhnhhihoaaGreat
open Go.Am
set_option linter.unusedSimpArgs false
set_option linter.unusedVariables false
noncomputable section

def wdS (ws : List Sc) (i : Int) : BitVec 64 := if i < 1 ∨ 31 < i then 0#64 else match ws.getD i.toNat .any with
  | .u x => x
  | _ => 0#64
theorem wd_eq {x : BitVec 64} {W : List (BitVec 64)} (hl : W.length = 31) (i : Int) : wdS (.u x :: W.map Sc.u) i = rgW (0#64 :: W) i := by
  rw [rg_get (x := x) hl]
  unfold wdS
  by_cases h : 0 < i ∧ i < 32
  · rw [if_neg (by omega), if_pos h, show (Sc.u x :: W.map Sc.u).getD i.toNat .any = .u ((x :: W).getD i.toNat 0#64) from us_get (W := x :: W) (by simp [hl]; omega)]
  · rw [if_pos (by omega), if_neg h]
def s_r30word (args : List AV) : Option AV :=
  match args with
  | [.g ws, .c (.i i)] => if isU32 ws then some (.c (.u (wdS ws i))) else none
  | _ => none
theorem s_r30word_eq {ws i} : s_r30word [.g ws, .c (.i i)] = if isU32 ws then some (.c (.u (wdS ws i))) else none := rfl
set_option maxRecDepth 100000 in
set_option maxHeartbeats 2000000 in
theorem ok_r30word : PuOk Tryz.prog 20 s_r30word := by
  refine pu_ok (tab := []) hmix TabOk.nil Tryz.func20 rfl Tryz.results20 Tryz.ntmps20 (by kernel_rfl) (by kernel_rfl) ?_
  intro args v h
  unfold s_r30word at h
  split at h
  · rename_i ws i
    split at h
    · rename_i hc
      simp only [Option.some.injEq] at h; subst h
      have hw := hc
      obtain ⟨x, W, rfl, hl⟩ := isU32_inv hc
      obtain ⟨p1, p2, p3⟩ := us_pf W
      have px : (Sc.u x).pf = true := rfl
      refine ⟨by simp only [List.length_cons, List.length_nil]; decide, by first | rfl | simp only [List.all_cons, List.all_nil, AV.pf, Sc.pf, Bool.and_true, *], by first | rfl | simp only [List.all_cons, List.all_nil, AV.pf, Sc.pf, Bool.and_true, *], ?_⟩
      by_cases h1 : i < 1
      · have e : wdS (.u x :: W.map Sc.u) i = 0#64 := if_pos (.inl h1)
        (try simp (config := { maxSteps := 10000000 }) only [go_sem, List.reduceReplicate, BitVec.reduceOfInt, BitVec.reduceToNat, BitVec.reduceToInt, BitVec.reduceEq, BitVec.reduceLT, BitVec.reduceLE, BitVec.reduceAdd, BitVec.reduceSub, BitVec.reduceMul, BitVec.reduceUDiv, BitVec.reduceUMod, BitVec.reduceAnd, BitVec.reduceOr, BitVec.reduceXOr, BitVec.reduceNot, BitVec.reduceNeg, BitVec.reduceHShiftLeft, BitVec.reduceHShiftRight, Nat.reduceAdd, Nat.reduceMul, Nat.reduceSub, Nat.reduceBEq, Nat.reduceEqDiff, Nat.reduceLeDiff, Nat.reduceLT, Int.reduceLE, Int.reduceLT, Int.reduceAdd, Int.reduceSub, Int.reduceMul, Int.reduceNeg, Int.reduceToNat, Int.reduceEq, ↓reduceIte, reduceCtorEq, List.length_map, hl, p2, h1, e]; repeat (simp (disch := omega) only [w64_d, ipos, ineg, dpos, dneg]; try simp (config := { maxSteps := 10000000 }) only [go_sem, List.reduceReplicate, BitVec.reduceOfInt, BitVec.reduceToNat, BitVec.reduceToInt, BitVec.reduceEq, BitVec.reduceLT, BitVec.reduceLE, BitVec.reduceAdd, BitVec.reduceSub, BitVec.reduceMul, BitVec.reduceUDiv, BitVec.reduceUMod, BitVec.reduceAnd, BitVec.reduceOr, BitVec.reduceXOr, BitVec.reduceNot, BitVec.reduceNeg, BitVec.reduceHShiftLeft, BitVec.reduceHShiftRight, Nat.reduceAdd, Nat.reduceMul, Nat.reduceSub, Nat.reduceBEq, Nat.reduceEqDiff, Nat.reduceLeDiff, Nat.reduceLT, Int.reduceLE, Int.reduceLT, Int.reduceAdd, Int.reduceSub, Int.reduceMul, Int.reduceNeg, Int.reduceToNat, Int.reduceEq, ↓reduceIte, reduceCtorEq, List.length_map, hl, p2, h1, e]))
      by_cases h2 : 31 < i
      · have e : wdS (.u x :: W.map Sc.u) i = 0#64 := if_pos (.inr h2)
        (try simp (config := { maxSteps := 10000000 }) only [go_sem, List.reduceReplicate, BitVec.reduceOfInt, BitVec.reduceToNat, BitVec.reduceToInt, BitVec.reduceEq, BitVec.reduceLT, BitVec.reduceLE, BitVec.reduceAdd, BitVec.reduceSub, BitVec.reduceMul, BitVec.reduceUDiv, BitVec.reduceUMod, BitVec.reduceAnd, BitVec.reduceOr, BitVec.reduceXOr, BitVec.reduceNot, BitVec.reduceNeg, BitVec.reduceHShiftLeft, BitVec.reduceHShiftRight, Nat.reduceAdd, Nat.reduceMul, Nat.reduceSub, Nat.reduceBEq, Nat.reduceEqDiff, Nat.reduceLeDiff, Nat.reduceLT, Int.reduceLE, Int.reduceLT, Int.reduceAdd, Int.reduceSub, Int.reduceMul, Int.reduceNeg, Int.reduceToNat, Int.reduceEq, ↓reduceIte, reduceCtorEq, List.length_map, hl, p2, h1, h2, e]; repeat (simp (disch := omega) only [w64_d, ipos, ineg, dpos, dneg]; try simp (config := { maxSteps := 10000000 }) only [go_sem, List.reduceReplicate, BitVec.reduceOfInt, BitVec.reduceToNat, BitVec.reduceToInt, BitVec.reduceEq, BitVec.reduceLT, BitVec.reduceLE, BitVec.reduceAdd, BitVec.reduceSub, BitVec.reduceMul, BitVec.reduceUDiv, BitVec.reduceUMod, BitVec.reduceAnd, BitVec.reduceOr, BitVec.reduceXOr, BitVec.reduceNot, BitVec.reduceNeg, BitVec.reduceHShiftLeft, BitVec.reduceHShiftRight, Nat.reduceAdd, Nat.reduceMul, Nat.reduceSub, Nat.reduceBEq, Nat.reduceEqDiff, Nat.reduceLeDiff, Nat.reduceLT, Int.reduceLE, Int.reduceLT, Int.reduceAdd, Int.reduceSub, Int.reduceMul, Int.reduceNeg, Int.reduceToNat, Int.reduceEq, ↓reduceIte, reduceCtorEq, List.length_map, hl, p2, h1, h2, e]))
      · have g1 : (Sc.u x :: W.map Sc.u).getD i.toNat .any = .u ((x :: W).getD i.toNat 0#64) := us_get (W := x :: W) (by simp [hl]; omega)
        have e : wdS (.u x :: W.map Sc.u) i = (x :: W).getD i.toNat 0#64 := by unfold wdS; rw [if_neg (by omega), g1]
        have e5 : i.toNat + 1 ≤ 32 := by omega
        have e6 : 0 ≤ i := by omega
        have e7 : i < 32 := by omega
        (try simp (config := { maxSteps := 10000000 }) only [go_sem, List.reduceReplicate, BitVec.reduceOfInt, BitVec.reduceToNat, BitVec.reduceToInt, BitVec.reduceEq, BitVec.reduceLT, BitVec.reduceLE, BitVec.reduceAdd, BitVec.reduceSub, BitVec.reduceMul, BitVec.reduceUDiv, BitVec.reduceUMod, BitVec.reduceAnd, BitVec.reduceOr, BitVec.reduceXOr, BitVec.reduceNot, BitVec.reduceNeg, BitVec.reduceHShiftLeft, BitVec.reduceHShiftRight, Nat.reduceAdd, Nat.reduceMul, Nat.reduceSub, Nat.reduceBEq, Nat.reduceEqDiff, Nat.reduceLeDiff, Nat.reduceLT, Int.reduceLE, Int.reduceLT, Int.reduceAdd, Int.reduceSub, Int.reduceMul, Int.reduceNeg, Int.reduceToNat, Int.reduceEq, ↓reduceIte, reduceCtorEq, List.length_map, hl, p2, h1, h2, e, g1, e5, e6, e7]; repeat (simp (disch := omega) only [w64_d, ipos, ineg, dpos, dneg]; try simp (config := { maxSteps := 10000000 }) only [go_sem, List.reduceReplicate, BitVec.reduceOfInt, BitVec.reduceToNat, BitVec.reduceToInt, BitVec.reduceEq, BitVec.reduceLT, BitVec.reduceLE, BitVec.reduceAdd, BitVec.reduceSub, BitVec.reduceMul, BitVec.reduceUDiv, BitVec.reduceUMod, BitVec.reduceAnd, BitVec.reduceOr, BitVec.reduceXOr, BitVec.reduceNot, BitVec.reduceNeg, BitVec.reduceHShiftLeft, BitVec.reduceHShiftRight, Nat.reduceAdd, Nat.reduceMul, Nat.reduceSub, Nat.reduceBEq, Nat.reduceEqDiff, Nat.reduceLeDiff, Nat.reduceLT, Int.reduceLE, Int.reduceLT, Int.reduceAdd, Int.reduceSub, Int.reduceMul, Int.reduceNeg, Int.reduceToNat, Int.reduceEq, ↓reduceIte, reduceCtorEq, List.length_map, hl, p2, h1, h2, e, g1, e5, e6, e7]))
    · simp at h
  · simp at h
theorem mod4 (x : BitVec 64) : (0#64 < x % 4#64) = ¬ (x &&& 3#64 = 0#64) := by
  have h : x % 4#64 = x &&& 3#64 := by
    apply BitVec.eq_of_toNat_eq
    rw [BitVec.toNat_umod, BitVec.toNat_and]
    exact (Nat.and_two_pow_sub_one_eq_mod x.toNat 2).symm
  rw [h]
  apply propext
  rw [BitVec.lt_def]
  constructor
  · intro h1 h2; rw [h2] at h1; exact absurd h1 (by decide)
  · intro h1
    rcases Nat.eq_zero_or_pos (x &&& 3#64).toNat with h2 | h2
    · exact absurd (BitVec.eq_of_toNat_eq (by rw [h2]; rfl)) h1
    · exact h2
theorem pos0 (x : BitVec 64) : (0#64 < x) = ¬ (x = 0#64) := by
  apply propext
  rw [BitVec.lt_def]
  constructor
  · intro h1 h2; rw [h2] at h1; exact absurd h1 (by decide)
  · intro h1
    rcases Nat.eq_zero_or_pos x.toNat with h2 | h2
    · exact absurd (BitVec.eq_of_toNat_eq (by rw [h2]; rfl)) h1
    · exact h2
theorem isI_l {op : Int} (h : classI op = 7) : isI op = if linkB op = true then 2 else if condB op = true then 3 else 1 := if_pos h
def s_r30atom (args : List AV) : Option AV :=
  match args with
  | [.g [.i op, .i rd, .i r1, .i r2, .i im, .i cs, .b aq, .b rl], .c (.u pc), .c (.u a), .c (.u b), .c (.i sz)] => if classI op = 7 ∧ sz = sizeI op then some (.g (atomL op rd pc a b)) else none
  | _ => none
theorem s_r30atom_eq {op rd r1 r2 im cs aq rl pc a b sz} : s_r30atom [.g [.i op, .i rd, .i r1, .i r2, .i im, .i cs, .b aq, .b rl], .c (.u pc), .c (.u a), .c (.u b), .c (.i sz)] = if classI op = 7 ∧ sz = sizeI op then some (.g (atomL op rd pc a b)) else none := rfl
set_option maxRecDepth 100000 in
set_option maxHeartbeats 2000000 in
theorem ok_r30atom : PuOk Tryz.prog 31 s_r30atom := by
  refine pu_ok (tab := [(64, .pu s_ris8), (30, .pu s_rcut), (28, .pu s_r30trap)]) hmix (TabOk.cons (e := .pu s_ris8) ok_ris8 (TabOk.cons (e := .pu s_rcut) ok_rcut (TabOk.cons (e := .pu s_r30trap) ok_r30trap TabOk.nil))) Tryz.func31 rfl Tryz.results31 Tryz.ntmps31 (by kernel_rfl) (by kernel_rfl) ?_
  intro args v h
  unfold s_r30atom at h
  split at h
  · rename_i op rd r1 r2 im cs aq rl pc a b sz
    split at h
    · rename_i hc
      simp only [Option.some.injEq] at h; subst h
      obtain ⟨hc, rfl⟩ := hc
      have pz := (isEff_len (atomL_eff op rd pc a b)).2.2.1
      refine ⟨by simp only [List.length_cons, List.length_nil]; decide, by first | rfl | simp only [List.all_cons, List.all_nil, AV.pf, Sc.pf, Bool.and_true, *], by first | rfl | simp only [List.all_cons, List.all_nil, AV.pf, Sc.pf, Bool.and_true, *], ?_⟩
      obtain ⟨e1, i1⟩ := size_w op
      have i0 : inR 0 := ⟨by omega, by omega⟩
      have hp := size_p hc
      have hb := size_b op
      have his := isI_l hc
      have nz : (BitVec.ofInt 64 (sizeI op) = 0#64) = False := by
        refine eq_false fun h => ?_
        have := congrArg BitVec.toInt h
        rw [BitVec.toInt_ofInt] at this
        have e : (sizeI op).bmod (2 ^ 64) = sizeI op := Int.bmod_eq_of_le (by omega) (by omega)
        rw [e] at this
        have : sizeI op = 0 := this
        omega
      cases h1 : linkB op
      · cases h2 : condB op
        all_goals rw [h1, h2] at his
        all_goals simp only [Bool.false_eq_true, if_false, if_true] at his
        all_goals by_cases h3 : a % BitVec.ofInt 64 (sizeI op) = 0#64
        all_goals (try simp (config := { maxSteps := 10000000 }) only [go_sem, List.reduceReplicate, BitVec.reduceOfInt, BitVec.reduceToNat, BitVec.reduceToInt, BitVec.reduceEq, BitVec.reduceLT, BitVec.reduceLE, BitVec.reduceAdd, BitVec.reduceSub, BitVec.reduceMul, BitVec.reduceUDiv, BitVec.reduceUMod, BitVec.reduceAnd, BitVec.reduceOr, BitVec.reduceXOr, BitVec.reduceNot, BitVec.reduceNeg, BitVec.reduceHShiftLeft, BitVec.reduceHShiftRight, Nat.reduceAdd, Nat.reduceMul, Nat.reduceSub, Nat.reduceBEq, Nat.reduceEqDiff, Nat.reduceLeDiff, Nat.reduceLT, Int.reduceLE, Int.reduceLT, Int.reduceAdd, Int.reduceSub, Int.reduceMul, Int.reduceNeg, Int.reduceToNat, Int.reduceEq, ↓reduceIte, reduceCtorEq, s_ris8_eq, s_rcut_eq, s_r30trap_eq, his, h1, h2, h3, nz, e1, i1, i0, pos0, cut_low, exc_t.1, exc_t.2, atomL, trapL, effL]; repeat (simp (disch := omega) only [w64_d, ipos, ineg, dpos, dneg]; try simp (config := { maxSteps := 10000000 }) only [go_sem, List.reduceReplicate, BitVec.reduceOfInt, BitVec.reduceToNat, BitVec.reduceToInt, BitVec.reduceEq, BitVec.reduceLT, BitVec.reduceLE, BitVec.reduceAdd, BitVec.reduceSub, BitVec.reduceMul, BitVec.reduceUDiv, BitVec.reduceUMod, BitVec.reduceAnd, BitVec.reduceOr, BitVec.reduceXOr, BitVec.reduceNot, BitVec.reduceNeg, BitVec.reduceHShiftLeft, BitVec.reduceHShiftRight, Nat.reduceAdd, Nat.reduceMul, Nat.reduceSub, Nat.reduceBEq, Nat.reduceEqDiff, Nat.reduceLeDiff, Nat.reduceLT, Int.reduceLE, Int.reduceLT, Int.reduceAdd, Int.reduceSub, Int.reduceMul, Int.reduceNeg, Int.reduceToNat, Int.reduceEq, ↓reduceIte, reduceCtorEq, s_ris8_eq, s_rcut_eq, s_r30trap_eq, his, h1, h2, h3, nz, e1, i1, i0, pos0, cut_low, exc_t.1, exc_t.2, atomL, trapL, effL]))
      · rw [h1] at his
        simp only [if_true] at his
        by_cases h3 : a % BitVec.ofInt 64 (sizeI op) = 0#64
        all_goals (try simp (config := { maxSteps := 10000000 }) only [go_sem, List.reduceReplicate, BitVec.reduceOfInt, BitVec.reduceToNat, BitVec.reduceToInt, BitVec.reduceEq, BitVec.reduceLT, BitVec.reduceLE, BitVec.reduceAdd, BitVec.reduceSub, BitVec.reduceMul, BitVec.reduceUDiv, BitVec.reduceUMod, BitVec.reduceAnd, BitVec.reduceOr, BitVec.reduceXOr, BitVec.reduceNot, BitVec.reduceNeg, BitVec.reduceHShiftLeft, BitVec.reduceHShiftRight, Nat.reduceAdd, Nat.reduceMul, Nat.reduceSub, Nat.reduceBEq, Nat.reduceEqDiff, Nat.reduceLeDiff, Nat.reduceLT, Int.reduceLE, Int.reduceLT, Int.reduceAdd, Int.reduceSub, Int.reduceMul, Int.reduceNeg, Int.reduceToNat, Int.reduceEq, ↓reduceIte, reduceCtorEq, s_ris8_eq, s_rcut_eq, s_r30trap_eq, his, h1, h3, nz, e1, i1, i0, pos0, cut_low, exc_l.1, exc_l.2, atomL, trapL, effL]; repeat (simp (disch := omega) only [w64_d, ipos, ineg, dpos, dneg]; try simp (config := { maxSteps := 10000000 }) only [go_sem, List.reduceReplicate, BitVec.reduceOfInt, BitVec.reduceToNat, BitVec.reduceToInt, BitVec.reduceEq, BitVec.reduceLT, BitVec.reduceLE, BitVec.reduceAdd, BitVec.reduceSub, BitVec.reduceMul, BitVec.reduceUDiv, BitVec.reduceUMod, BitVec.reduceAnd, BitVec.reduceOr, BitVec.reduceXOr, BitVec.reduceNot, BitVec.reduceNeg, BitVec.reduceHShiftLeft, BitVec.reduceHShiftRight, Nat.reduceAdd, Nat.reduceMul, Nat.reduceSub, Nat.reduceBEq, Nat.reduceEqDiff, Nat.reduceLeDiff, Nat.reduceLT, Int.reduceLE, Int.reduceLT, Int.reduceAdd, Int.reduceSub, Int.reduceMul, Int.reduceNeg, Int.reduceToNat, Int.reduceEq, ↓reduceIte, reduceCtorEq, s_ris8_eq, s_rcut_eq, s_r30trap_eq, his, h1, h3, nz, e1, i1, i0, pos0, cut_low, exc_l.1, exc_l.2, atomL, trapL, effL]))
    · simp at h
  · simp at h
theorem has_num : ∀ k : Nat, k < 99 → classI k = 1 → hasT (fmtT k).toNat 105 = numB k ∧ (fmtT k).toNat < 15 := by decide +kernel
theorem ecall_n : ∀ k : Nat, k < 99 → classI k = 10 → decide (nm k = (⟨#[101, 99, 97, 108, 108]⟩ : ByteArray)) = decide (k = 52) ∧ decide (nm k = (⟨#[101, 98, 114, 101, 97, 107]⟩ : ByteArray)) = decide (k = 53) := by decide +kernel
theorem class_ne0 {op : Int} (h : classI op ≠ 0) : 1 ≤ op ∧ op ≤ 98 := class_in h
set_option maxHeartbeats 8000000 in
def s_rd1 (args : List AV) : Option AV :=
  match args with
  | [.g [.i op, .i rd, .i r1, .i r2, .i im, .i cs, .b aq, .b rl], .c (.u pc), .g ws, .c (.i pr)] => if isU32 ws ∧ (classI op = 1) then some (.g (doL op rd im pc (wdS ws r1) (wdS ws r2) pr)) else none
  | _ => none
theorem s_rd1_eq {op rd r1 r2 im cs aq rl pc ws pr} : s_rd1 [.g [.i op, .i rd, .i r1, .i r2, .i im, .i cs, .b aq, .b rl], .c (.u pc), .g ws, .c (.i pr)] = if isU32 ws ∧ (classI op = 1) then some (.g (doL op rd im pc (wdS ws r1) (wdS ws r2) pr)) else none := rfl
set_option maxRecDepth 100000 in
set_option maxHeartbeats 2000000 in
theorem ok_rd1 : PuOk Tryz.prog 7 s_rd1 := by
  refine pu_ok (tab := [(21, .pu s_rksize), (22, .pu s_rclass), (24, .pu s_rfind), (23, .pu s_rhas), (25, .pu s_rdo7), (26, .pu s_rup), (27, .pu s_rtarget), (29, .pu s_rtaken), (28, .pu s_r30trap), (30, .pu s_rcut), (31, .pu s_r30atom), (32, .fp s_names), (33, .pu s_r21call), (20, .pu s_r30word)]) hmix (TabOk.cons (e := .pu s_rksize) ok_rksize (TabOk.cons (e := .pu s_rclass) ok_rclass (TabOk.cons (e := .pu s_rfind) ok_rfind (TabOk.cons (e := .pu s_rhas) ok_rhas (TabOk.cons (e := .pu s_rdo7) ok_rdo7 (TabOk.cons (e := .pu s_rup) ok_rup (TabOk.cons (e := .pu s_rtarget) ok_rtarget (TabOk.cons (e := .pu s_rtaken) ok_rtaken (TabOk.cons (e := .pu s_r30trap) ok_r30trap (TabOk.cons (e := .pu s_rcut) ok_rcut (TabOk.cons (e := .pu s_r30atom) ok_r30atom (TabOk.cons (e := .fp s_names) ok_names (TabOk.cons (e := .pu s_r21call) ok_r21call (TabOk.cons (e := .pu s_r30word) ok_r30word TabOk.nil)))))))))))))) Tryz.func7 rfl Tryz.results7 Tryz.ntmps7 (by kernel_rfl) (by kernel_rfl) ?_
  intro args v h
  unfold s_rd1 at h
  split at h
  · rename_i op rd r1 r2 im cs aq rl pc ws pr
    split at h
    · rename_i hc
      simp only [Option.some.injEq] at h; subst h
      obtain ⟨hw, hc⟩ := hc
      have pz := (isEff_len (doL_eff op rd im pc (wdS ws r1) (wdS ws r2) pr)).2.2.1
      have pw : ws.all Sc.pf = true := by obtain ⟨W, rfl, _⟩ := hw; exact (us_pf W).1
      refine ⟨by simp only [List.length_cons, List.length_nil]; decide, by first | rfl | simp only [List.all_cons, List.all_nil, AV.pf, Sc.pf, Bool.and_true, *], by first | rfl | simp only [List.all_cons, List.all_nil, AV.pf, Sc.pf, Bool.and_true, *], ?_⟩
      have ow : ws.all Sc.one = true := by obtain ⟨W, rfl, _⟩ := hw; exact (us_pf W).2.1
      have lw : ws.length = 32 := by obtain ⟨W, rfl, hl⟩ := hw; simpa using hl
      have tw : ws.take 32 = ws := by rw [← lw, List.take_length]
      obtain ⟨e1, i1⟩ := size_w op
      have i0 : inR 0 := ⟨by omega, by omega⟩
      generalize ha : wdS ws r1 = a at *
      generalize hb : wdS ws r2 = b at *
      obtain ⟨k1, k2⟩ := class_ne0 (op := op) (by rw [hc]; decide)
      obtain ⟨k, rfl⟩ := Int.eq_ofNat_of_zero_le (by omega : 0 ≤ op)
      obtain ⟨q1, q2⟩ := has_num k (by omega) hc
      have rr : rowT (k : Int) = [.i k, .s (fn (fmtT k).toNat), .u (BitVec.ofNat 64 (tM k)), .u (BitVec.ofNat 64 (tV k))] := by unfold rowT; rw [if_pos (by omega)]; rfl
      have q3 := nmF_fn q2
      cases hn : numB (k : Int)
      all_goals (try simp (config := { maxSteps := 10000000 }) only [go_sem, List.reduceReplicate, BitVec.reduceOfInt, BitVec.reduceToNat, BitVec.reduceToInt, BitVec.reduceEq, BitVec.reduceLT, BitVec.reduceLE, BitVec.reduceAdd, BitVec.reduceSub, BitVec.reduceMul, BitVec.reduceUDiv, BitVec.reduceUMod, BitVec.reduceAnd, BitVec.reduceOr, BitVec.reduceXOr, BitVec.reduceNot, BitVec.reduceNeg, BitVec.reduceHShiftLeft, BitVec.reduceHShiftRight, Nat.reduceAdd, Nat.reduceMul, Nat.reduceSub, Nat.reduceBEq, Nat.reduceEqDiff, Nat.reduceLeDiff, Nat.reduceLT, Int.reduceLE, Int.reduceLT, Int.reduceAdd, Int.reduceSub, Int.reduceMul, Int.reduceNeg, Int.reduceToNat, Int.reduceEq, ↓reduceIte, reduceCtorEq, s_rksize_eq, s_rclass_eq, s_rfind_eq, s_rhas_eq, s_rdo7_eq, s_rup_eq, s_rtarget_eq, s_rtaken_eq, s_r30trap_eq, s_rcut_eq, s_r30atom_eq, s_names_eq, s_r21call_eq, s_r30word_eq, lw, ow, tw, hw, ha, hb, hc, rr, q1, q2, q3, hn, doL, plainL, effL]; repeat (simp (disch := omega) only [w64_d, ipos, ineg, dpos, dneg]; try simp (config := { maxSteps := 10000000 }) only [go_sem, List.reduceReplicate, BitVec.reduceOfInt, BitVec.reduceToNat, BitVec.reduceToInt, BitVec.reduceEq, BitVec.reduceLT, BitVec.reduceLE, BitVec.reduceAdd, BitVec.reduceSub, BitVec.reduceMul, BitVec.reduceUDiv, BitVec.reduceUMod, BitVec.reduceAnd, BitVec.reduceOr, BitVec.reduceXOr, BitVec.reduceNot, BitVec.reduceNeg, BitVec.reduceHShiftLeft, BitVec.reduceHShiftRight, Nat.reduceAdd, Nat.reduceMul, Nat.reduceSub, Nat.reduceBEq, Nat.reduceEqDiff, Nat.reduceLeDiff, Nat.reduceLT, Int.reduceLE, Int.reduceLT, Int.reduceAdd, Int.reduceSub, Int.reduceMul, Int.reduceNeg, Int.reduceToNat, Int.reduceEq, ↓reduceIte, reduceCtorEq, s_rksize_eq, s_rclass_eq, s_rfind_eq, s_rhas_eq, s_rdo7_eq, s_rup_eq, s_rtarget_eq, s_rtaken_eq, s_r30trap_eq, s_rcut_eq, s_r30atom_eq, s_names_eq, s_r21call_eq, s_r30word_eq, lw, ow, tw, hw, ha, hb, hc, rr, q1, q2, q3, hn, doL, plainL, effL]))
    · simp at h
  · simp at h
set_option maxHeartbeats 8000000 in
def s_rd2 (args : List AV) : Option AV :=
  match args with
  | [.g [.i op, .i rd, .i r1, .i r2, .i im, .i cs, .b aq, .b rl], .c (.u pc), .g ws, .c (.i pr)] => if isU32 ws ∧ (classI op = 2 ∨ classI op = 9) then some (.g (doL op rd im pc (wdS ws r1) (wdS ws r2) pr)) else none
  | _ => none
theorem s_rd2_eq {op rd r1 r2 im cs aq rl pc ws pr} : s_rd2 [.g [.i op, .i rd, .i r1, .i r2, .i im, .i cs, .b aq, .b rl], .c (.u pc), .g ws, .c (.i pr)] = if isU32 ws ∧ (classI op = 2 ∨ classI op = 9) then some (.g (doL op rd im pc (wdS ws r1) (wdS ws r2) pr)) else none := rfl
set_option maxRecDepth 100000 in
set_option maxHeartbeats 2000000 in
theorem ok_rd2 : PuOk Tryz.prog 7 s_rd2 := by
  refine pu_ok (tab := [(21, .pu s_rksize), (22, .pu s_rclass), (24, .pu s_rfind), (23, .pu s_rhas), (25, .pu s_rdo7), (26, .pu s_rup), (27, .pu s_rtarget), (29, .pu s_rtaken), (28, .pu s_r30trap), (30, .pu s_rcut), (31, .pu s_r30atom), (32, .fp s_names), (33, .pu s_r21call), (20, .pu s_r30word)]) hmix (TabOk.cons (e := .pu s_rksize) ok_rksize (TabOk.cons (e := .pu s_rclass) ok_rclass (TabOk.cons (e := .pu s_rfind) ok_rfind (TabOk.cons (e := .pu s_rhas) ok_rhas (TabOk.cons (e := .pu s_rdo7) ok_rdo7 (TabOk.cons (e := .pu s_rup) ok_rup (TabOk.cons (e := .pu s_rtarget) ok_rtarget (TabOk.cons (e := .pu s_rtaken) ok_rtaken (TabOk.cons (e := .pu s_r30trap) ok_r30trap (TabOk.cons (e := .pu s_rcut) ok_rcut (TabOk.cons (e := .pu s_r30atom) ok_r30atom (TabOk.cons (e := .fp s_names) ok_names (TabOk.cons (e := .pu s_r21call) ok_r21call (TabOk.cons (e := .pu s_r30word) ok_r30word TabOk.nil)))))))))))))) Tryz.func7 rfl Tryz.results7 Tryz.ntmps7 (by kernel_rfl) (by kernel_rfl) ?_
  intro args v h
  unfold s_rd2 at h
  split at h
  · rename_i op rd r1 r2 im cs aq rl pc ws pr
    split at h
    · rename_i hc
      simp only [Option.some.injEq] at h; subst h
      obtain ⟨hw, hc⟩ := hc
      have pz := (isEff_len (doL_eff op rd im pc (wdS ws r1) (wdS ws r2) pr)).2.2.1
      have pw : ws.all Sc.pf = true := by obtain ⟨W, rfl, _⟩ := hw; exact (us_pf W).1
      refine ⟨by simp only [List.length_cons, List.length_nil]; decide, by first | rfl | simp only [List.all_cons, List.all_nil, AV.pf, Sc.pf, Bool.and_true, *], by first | rfl | simp only [List.all_cons, List.all_nil, AV.pf, Sc.pf, Bool.and_true, *], ?_⟩
      have ow : ws.all Sc.one = true := by obtain ⟨W, rfl, _⟩ := hw; exact (us_pf W).2.1
      have lw : ws.length = 32 := by obtain ⟨W, rfl, hl⟩ := hw; simpa using hl
      have tw : ws.take 32 = ws := by rw [← lw, List.take_length]
      obtain ⟨e1, i1⟩ := size_w op
      have i0 : inR 0 := ⟨by omega, by omega⟩
      generalize ha : wdS ws r1 = a at *
      generalize hb : wdS ws r2 = b at *
      rcases hc with hc | hc
      all_goals (try simp (config := { maxSteps := 10000000 }) only [go_sem, List.reduceReplicate, BitVec.reduceOfInt, BitVec.reduceToNat, BitVec.reduceToInt, BitVec.reduceEq, BitVec.reduceLT, BitVec.reduceLE, BitVec.reduceAdd, BitVec.reduceSub, BitVec.reduceMul, BitVec.reduceUDiv, BitVec.reduceUMod, BitVec.reduceAnd, BitVec.reduceOr, BitVec.reduceXOr, BitVec.reduceNot, BitVec.reduceNeg, BitVec.reduceHShiftLeft, BitVec.reduceHShiftRight, Nat.reduceAdd, Nat.reduceMul, Nat.reduceSub, Nat.reduceBEq, Nat.reduceEqDiff, Nat.reduceLeDiff, Nat.reduceLT, Int.reduceLE, Int.reduceLT, Int.reduceAdd, Int.reduceSub, Int.reduceMul, Int.reduceNeg, Int.reduceToNat, Int.reduceEq, ↓reduceIte, reduceCtorEq, s_rksize_eq, s_rclass_eq, s_rfind_eq, s_rhas_eq, s_rdo7_eq, s_rup_eq, s_rtarget_eq, s_rtaken_eq, s_r30trap_eq, s_rcut_eq, s_r30atom_eq, s_names_eq, s_r21call_eq, s_r30word_eq, lw, ow, tw, hw, ha, hb, hc, doL, plainL, effL]; repeat (simp (disch := omega) only [w64_d, ipos, ineg, dpos, dneg]; try simp (config := { maxSteps := 10000000 }) only [go_sem, List.reduceReplicate, BitVec.reduceOfInt, BitVec.reduceToNat, BitVec.reduceToInt, BitVec.reduceEq, BitVec.reduceLT, BitVec.reduceLE, BitVec.reduceAdd, BitVec.reduceSub, BitVec.reduceMul, BitVec.reduceUDiv, BitVec.reduceUMod, BitVec.reduceAnd, BitVec.reduceOr, BitVec.reduceXOr, BitVec.reduceNot, BitVec.reduceNeg, BitVec.reduceHShiftLeft, BitVec.reduceHShiftRight, Nat.reduceAdd, Nat.reduceMul, Nat.reduceSub, Nat.reduceBEq, Nat.reduceEqDiff, Nat.reduceLeDiff, Nat.reduceLT, Int.reduceLE, Int.reduceLT, Int.reduceAdd, Int.reduceSub, Int.reduceMul, Int.reduceNeg, Int.reduceToNat, Int.reduceEq, ↓reduceIte, reduceCtorEq, s_rksize_eq, s_rclass_eq, s_rfind_eq, s_rhas_eq, s_rdo7_eq, s_rup_eq, s_rtarget_eq, s_rtaken_eq, s_r30trap_eq, s_rcut_eq, s_r30atom_eq, s_names_eq, s_r21call_eq, s_r30word_eq, lw, ow, tw, hw, ha, hb, hc, doL, plainL, effL]))
    · simp at h
  · simp at h
set_option maxHeartbeats 8000000 in
def s_rd3 (args : List AV) : Option AV :=
  match args with
  | [.g [.i op, .i rd, .i r1, .i r2, .i im, .i cs, .b aq, .b rl], .c (.u pc), .g ws, .c (.i pr)] => if isU32 ws ∧ (classI op = 3) then some (.g (doL op rd im pc (wdS ws r1) (wdS ws r2) pr)) else none
  | _ => none
theorem s_rd3_eq {op rd r1 r2 im cs aq rl pc ws pr} : s_rd3 [.g [.i op, .i rd, .i r1, .i r2, .i im, .i cs, .b aq, .b rl], .c (.u pc), .g ws, .c (.i pr)] = if isU32 ws ∧ (classI op = 3) then some (.g (doL op rd im pc (wdS ws r1) (wdS ws r2) pr)) else none := rfl
set_option maxRecDepth 100000 in
set_option maxHeartbeats 2000000 in
theorem ok_rd3 : PuOk Tryz.prog 7 s_rd3 := by
  refine pu_ok (tab := [(21, .pu s_rksize), (22, .pu s_rclass), (24, .pu s_rfind), (23, .pu s_rhas), (25, .pu s_rdo7), (26, .pu s_rup), (27, .pu s_rtarget), (29, .pu s_rtaken), (28, .pu s_r30trap), (30, .pu s_rcut), (31, .pu s_r30atom), (32, .fp s_names), (33, .pu s_r21call), (20, .pu s_r30word)]) hmix (TabOk.cons (e := .pu s_rksize) ok_rksize (TabOk.cons (e := .pu s_rclass) ok_rclass (TabOk.cons (e := .pu s_rfind) ok_rfind (TabOk.cons (e := .pu s_rhas) ok_rhas (TabOk.cons (e := .pu s_rdo7) ok_rdo7 (TabOk.cons (e := .pu s_rup) ok_rup (TabOk.cons (e := .pu s_rtarget) ok_rtarget (TabOk.cons (e := .pu s_rtaken) ok_rtaken (TabOk.cons (e := .pu s_r30trap) ok_r30trap (TabOk.cons (e := .pu s_rcut) ok_rcut (TabOk.cons (e := .pu s_r30atom) ok_r30atom (TabOk.cons (e := .fp s_names) ok_names (TabOk.cons (e := .pu s_r21call) ok_r21call (TabOk.cons (e := .pu s_r30word) ok_r30word TabOk.nil)))))))))))))) Tryz.func7 rfl Tryz.results7 Tryz.ntmps7 (by kernel_rfl) (by kernel_rfl) ?_
  intro args v h
  unfold s_rd3 at h
  split at h
  · rename_i op rd r1 r2 im cs aq rl pc ws pr
    split at h
    · rename_i hc
      simp only [Option.some.injEq] at h; subst h
      obtain ⟨hw, hc⟩ := hc
      have pz := (isEff_len (doL_eff op rd im pc (wdS ws r1) (wdS ws r2) pr)).2.2.1
      have pw : ws.all Sc.pf = true := by obtain ⟨W, rfl, _⟩ := hw; exact (us_pf W).1
      refine ⟨by simp only [List.length_cons, List.length_nil]; decide, by first | rfl | simp only [List.all_cons, List.all_nil, AV.pf, Sc.pf, Bool.and_true, *], by first | rfl | simp only [List.all_cons, List.all_nil, AV.pf, Sc.pf, Bool.and_true, *], ?_⟩
      have ow : ws.all Sc.one = true := by obtain ⟨W, rfl, _⟩ := hw; exact (us_pf W).2.1
      have lw : ws.length = 32 := by obtain ⟨W, rfl, hl⟩ := hw; simpa using hl
      have tw : ws.take 32 = ws := by rw [← lw, List.take_length]
      obtain ⟨e1, i1⟩ := size_w op
      have i0 : inR 0 := ⟨by omega, by omega⟩
      generalize ha : wdS ws r1 = a at *
      generalize hb : wdS ws r2 = b at *
      have tb : tkB op = false := by
        rw [class_3] at hc; unfold tkB; simp; omega
      by_cases h : tgU op pc a im &&& 3#64 = 0#64
      all_goals (try simp (config := { maxSteps := 10000000 }) only [go_sem, List.reduceReplicate, BitVec.reduceOfInt, BitVec.reduceToNat, BitVec.reduceToInt, BitVec.reduceEq, BitVec.reduceLT, BitVec.reduceLE, BitVec.reduceAdd, BitVec.reduceSub, BitVec.reduceMul, BitVec.reduceUDiv, BitVec.reduceUMod, BitVec.reduceAnd, BitVec.reduceOr, BitVec.reduceXOr, BitVec.reduceNot, BitVec.reduceNeg, BitVec.reduceHShiftLeft, BitVec.reduceHShiftRight, Nat.reduceAdd, Nat.reduceMul, Nat.reduceSub, Nat.reduceBEq, Nat.reduceEqDiff, Nat.reduceLeDiff, Nat.reduceLT, Int.reduceLE, Int.reduceLT, Int.reduceAdd, Int.reduceSub, Int.reduceMul, Int.reduceNeg, Int.reduceToNat, Int.reduceEq, ↓reduceIte, reduceCtorEq, s_rksize_eq, s_rclass_eq, s_rfind_eq, s_rhas_eq, s_rdo7_eq, s_rup_eq, s_rtarget_eq, s_rtaken_eq, s_r30trap_eq, s_rcut_eq, s_r30atom_eq, s_names_eq, s_r21call_eq, s_r30word_eq, lw, ow, tw, hw, ha, hb, hc, mod4, h, tb, exc_i.1, exc_i.2, doL, flowL, jumpL, plainL, trapL, effL, Bool.false_eq_true, false_and, if_false]; repeat (simp (disch := omega) only [w64_d, ipos, ineg, dpos, dneg]; try simp (config := { maxSteps := 10000000 }) only [go_sem, List.reduceReplicate, BitVec.reduceOfInt, BitVec.reduceToNat, BitVec.reduceToInt, BitVec.reduceEq, BitVec.reduceLT, BitVec.reduceLE, BitVec.reduceAdd, BitVec.reduceSub, BitVec.reduceMul, BitVec.reduceUDiv, BitVec.reduceUMod, BitVec.reduceAnd, BitVec.reduceOr, BitVec.reduceXOr, BitVec.reduceNot, BitVec.reduceNeg, BitVec.reduceHShiftLeft, BitVec.reduceHShiftRight, Nat.reduceAdd, Nat.reduceMul, Nat.reduceSub, Nat.reduceBEq, Nat.reduceEqDiff, Nat.reduceLeDiff, Nat.reduceLT, Int.reduceLE, Int.reduceLT, Int.reduceAdd, Int.reduceSub, Int.reduceMul, Int.reduceNeg, Int.reduceToNat, Int.reduceEq, ↓reduceIte, reduceCtorEq, s_rksize_eq, s_rclass_eq, s_rfind_eq, s_rhas_eq, s_rdo7_eq, s_rup_eq, s_rtarget_eq, s_rtaken_eq, s_r30trap_eq, s_rcut_eq, s_r30atom_eq, s_names_eq, s_r21call_eq, s_r30word_eq, lw, ow, tw, hw, ha, hb, hc, mod4, h, tb, exc_i.1, exc_i.2, doL, flowL, jumpL, plainL, trapL, effL, Bool.false_eq_true, false_and, if_false]))
    · simp at h
  · simp at h
set_option maxHeartbeats 8000000 in
def s_rd4 (args : List AV) : Option AV :=
  match args with
  | [.g [.i op, .i rd, .i r1, .i r2, .i im, .i cs, .b aq, .b rl], .c (.u pc), .g ws, .c (.i pr)] => if isU32 ws ∧ (classI op = 4) then some (.g (doL op rd im pc (wdS ws r1) (wdS ws r2) pr)) else none
  | _ => none
theorem s_rd4_eq {op rd r1 r2 im cs aq rl pc ws pr} : s_rd4 [.g [.i op, .i rd, .i r1, .i r2, .i im, .i cs, .b aq, .b rl], .c (.u pc), .g ws, .c (.i pr)] = if isU32 ws ∧ (classI op = 4) then some (.g (doL op rd im pc (wdS ws r1) (wdS ws r2) pr)) else none := rfl
set_option maxRecDepth 100000 in
set_option maxHeartbeats 2000000 in
theorem ok_rd4 : PuOk Tryz.prog 7 s_rd4 := by
  refine pu_ok (tab := [(21, .pu s_rksize), (22, .pu s_rclass), (24, .pu s_rfind), (23, .pu s_rhas), (25, .pu s_rdo7), (26, .pu s_rup), (27, .pu s_rtarget), (29, .pu s_rtaken), (28, .pu s_r30trap), (30, .pu s_rcut), (31, .pu s_r30atom), (32, .fp s_names), (33, .pu s_r21call), (20, .pu s_r30word)]) hmix (TabOk.cons (e := .pu s_rksize) ok_rksize (TabOk.cons (e := .pu s_rclass) ok_rclass (TabOk.cons (e := .pu s_rfind) ok_rfind (TabOk.cons (e := .pu s_rhas) ok_rhas (TabOk.cons (e := .pu s_rdo7) ok_rdo7 (TabOk.cons (e := .pu s_rup) ok_rup (TabOk.cons (e := .pu s_rtarget) ok_rtarget (TabOk.cons (e := .pu s_rtaken) ok_rtaken (TabOk.cons (e := .pu s_r30trap) ok_r30trap (TabOk.cons (e := .pu s_rcut) ok_rcut (TabOk.cons (e := .pu s_r30atom) ok_r30atom (TabOk.cons (e := .fp s_names) ok_names (TabOk.cons (e := .pu s_r21call) ok_r21call (TabOk.cons (e := .pu s_r30word) ok_r30word TabOk.nil)))))))))))))) Tryz.func7 rfl Tryz.results7 Tryz.ntmps7 (by kernel_rfl) (by kernel_rfl) ?_
  intro args v h
  unfold s_rd4 at h
  split at h
  · rename_i op rd r1 r2 im cs aq rl pc ws pr
    split at h
    · rename_i hc
      simp only [Option.some.injEq] at h; subst h
      obtain ⟨hw, hc⟩ := hc
      have pz := (isEff_len (doL_eff op rd im pc (wdS ws r1) (wdS ws r2) pr)).2.2.1
      have pw : ws.all Sc.pf = true := by obtain ⟨W, rfl, _⟩ := hw; exact (us_pf W).1
      refine ⟨by simp only [List.length_cons, List.length_nil]; decide, by first | rfl | simp only [List.all_cons, List.all_nil, AV.pf, Sc.pf, Bool.and_true, *], by first | rfl | simp only [List.all_cons, List.all_nil, AV.pf, Sc.pf, Bool.and_true, *], ?_⟩
      have ow : ws.all Sc.one = true := by obtain ⟨W, rfl, _⟩ := hw; exact (us_pf W).2.1
      have lw : ws.length = 32 := by obtain ⟨W, rfl, hl⟩ := hw; simpa using hl
      have tw : ws.take 32 = ws := by rw [← lw, List.take_length]
      obtain ⟨e1, i1⟩ := size_w op
      have i0 : inR 0 := ⟨by omega, by omega⟩
      generalize ha : wdS ws r1 = a at *
      generalize hb : wdS ws r2 = b at *
      have tb : tkB op = true := by
        rw [class_4] at hc; unfold tkB; simp; omega
      cases ht : tkU op a b
      · (try simp (config := { maxSteps := 10000000 }) only [go_sem, List.reduceReplicate, BitVec.reduceOfInt, BitVec.reduceToNat, BitVec.reduceToInt, BitVec.reduceEq, BitVec.reduceLT, BitVec.reduceLE, BitVec.reduceAdd, BitVec.reduceSub, BitVec.reduceMul, BitVec.reduceUDiv, BitVec.reduceUMod, BitVec.reduceAnd, BitVec.reduceOr, BitVec.reduceXOr, BitVec.reduceNot, BitVec.reduceNeg, BitVec.reduceHShiftLeft, BitVec.reduceHShiftRight, Nat.reduceAdd, Nat.reduceMul, Nat.reduceSub, Nat.reduceBEq, Nat.reduceEqDiff, Nat.reduceLeDiff, Nat.reduceLT, Int.reduceLE, Int.reduceLT, Int.reduceAdd, Int.reduceSub, Int.reduceMul, Int.reduceNeg, Int.reduceToNat, Int.reduceEq, ↓reduceIte, reduceCtorEq, s_rksize_eq, s_rclass_eq, s_rfind_eq, s_rhas_eq, s_rdo7_eq, s_rup_eq, s_rtarget_eq, s_rtaken_eq, s_r30trap_eq, s_rcut_eq, s_r30atom_eq, s_names_eq, s_r21call_eq, s_r30word_eq, lw, ow, tw, hw, ha, hb, hc, ht, tb, doL, flowL, plainL, effL, true_and, if_true]; repeat (simp (disch := omega) only [w64_d, ipos, ineg, dpos, dneg]; try simp (config := { maxSteps := 10000000 }) only [go_sem, List.reduceReplicate, BitVec.reduceOfInt, BitVec.reduceToNat, BitVec.reduceToInt, BitVec.reduceEq, BitVec.reduceLT, BitVec.reduceLE, BitVec.reduceAdd, BitVec.reduceSub, BitVec.reduceMul, BitVec.reduceUDiv, BitVec.reduceUMod, BitVec.reduceAnd, BitVec.reduceOr, BitVec.reduceXOr, BitVec.reduceNot, BitVec.reduceNeg, BitVec.reduceHShiftLeft, BitVec.reduceHShiftRight, Nat.reduceAdd, Nat.reduceMul, Nat.reduceSub, Nat.reduceBEq, Nat.reduceEqDiff, Nat.reduceLeDiff, Nat.reduceLT, Int.reduceLE, Int.reduceLT, Int.reduceAdd, Int.reduceSub, Int.reduceMul, Int.reduceNeg, Int.reduceToNat, Int.reduceEq, ↓reduceIte, reduceCtorEq, s_rksize_eq, s_rclass_eq, s_rfind_eq, s_rhas_eq, s_rdo7_eq, s_rup_eq, s_rtarget_eq, s_rtaken_eq, s_r30trap_eq, s_rcut_eq, s_r30atom_eq, s_names_eq, s_r21call_eq, s_r30word_eq, lw, ow, tw, hw, ha, hb, hc, ht, tb, doL, flowL, plainL, effL, true_and, if_true]))
      · by_cases h : tgU op pc a im &&& 3#64 = 0#64
        all_goals (try simp (config := { maxSteps := 10000000 }) only [go_sem, List.reduceReplicate, BitVec.reduceOfInt, BitVec.reduceToNat, BitVec.reduceToInt, BitVec.reduceEq, BitVec.reduceLT, BitVec.reduceLE, BitVec.reduceAdd, BitVec.reduceSub, BitVec.reduceMul, BitVec.reduceUDiv, BitVec.reduceUMod, BitVec.reduceAnd, BitVec.reduceOr, BitVec.reduceXOr, BitVec.reduceNot, BitVec.reduceNeg, BitVec.reduceHShiftLeft, BitVec.reduceHShiftRight, Nat.reduceAdd, Nat.reduceMul, Nat.reduceSub, Nat.reduceBEq, Nat.reduceEqDiff, Nat.reduceLeDiff, Nat.reduceLT, Int.reduceLE, Int.reduceLT, Int.reduceAdd, Int.reduceSub, Int.reduceMul, Int.reduceNeg, Int.reduceToNat, Int.reduceEq, ↓reduceIte, reduceCtorEq, s_rksize_eq, s_rclass_eq, s_rfind_eq, s_rhas_eq, s_rdo7_eq, s_rup_eq, s_rtarget_eq, s_rtaken_eq, s_r30trap_eq, s_rcut_eq, s_r30atom_eq, s_names_eq, s_r21call_eq, s_r30word_eq, lw, ow, tw, hw, ha, hb, hc, mod4, h, ht, tb, exc_i.1, exc_i.2, doL, flowL, jumpL, plainL, trapL, effL, Bool.true_eq_false, and_false, if_false]; repeat (simp (disch := omega) only [w64_d, ipos, ineg, dpos, dneg]; try simp (config := { maxSteps := 10000000 }) only [go_sem, List.reduceReplicate, BitVec.reduceOfInt, BitVec.reduceToNat, BitVec.reduceToInt, BitVec.reduceEq, BitVec.reduceLT, BitVec.reduceLE, BitVec.reduceAdd, BitVec.reduceSub, BitVec.reduceMul, BitVec.reduceUDiv, BitVec.reduceUMod, BitVec.reduceAnd, BitVec.reduceOr, BitVec.reduceXOr, BitVec.reduceNot, BitVec.reduceNeg, BitVec.reduceHShiftLeft, BitVec.reduceHShiftRight, Nat.reduceAdd, Nat.reduceMul, Nat.reduceSub, Nat.reduceBEq, Nat.reduceEqDiff, Nat.reduceLeDiff, Nat.reduceLT, Int.reduceLE, Int.reduceLT, Int.reduceAdd, Int.reduceSub, Int.reduceMul, Int.reduceNeg, Int.reduceToNat, Int.reduceEq, ↓reduceIte, reduceCtorEq, s_rksize_eq, s_rclass_eq, s_rfind_eq, s_rhas_eq, s_rdo7_eq, s_rup_eq, s_rtarget_eq, s_rtaken_eq, s_r30trap_eq, s_rcut_eq, s_r30atom_eq, s_names_eq, s_r21call_eq, s_r30word_eq, lw, ow, tw, hw, ha, hb, hc, mod4, h, ht, tb, exc_i.1, exc_i.2, doL, flowL, jumpL, plainL, trapL, effL, Bool.true_eq_false, and_false, if_false]))
    · simp at h
  · simp at h
set_option maxHeartbeats 8000000 in
def s_rd5 (args : List AV) : Option AV :=
  match args with
  | [.g [.i op, .i rd, .i r1, .i r2, .i im, .i cs, .b aq, .b rl], .c (.u pc), .g ws, .c (.i pr)] => if isU32 ws ∧ (classI op = 5 ∨ classI op = 6) then some (.g (doL op rd im pc (wdS ws r1) (wdS ws r2) pr)) else none
  | _ => none
theorem s_rd5_eq {op rd r1 r2 im cs aq rl pc ws pr} : s_rd5 [.g [.i op, .i rd, .i r1, .i r2, .i im, .i cs, .b aq, .b rl], .c (.u pc), .g ws, .c (.i pr)] = if isU32 ws ∧ (classI op = 5 ∨ classI op = 6) then some (.g (doL op rd im pc (wdS ws r1) (wdS ws r2) pr)) else none := rfl
set_option maxRecDepth 100000 in
set_option maxHeartbeats 2000000 in
theorem ok_rd5 : PuOk Tryz.prog 7 s_rd5 := by
  refine pu_ok (tab := [(21, .pu s_rksize), (22, .pu s_rclass), (24, .pu s_rfind), (23, .pu s_rhas), (25, .pu s_rdo7), (26, .pu s_rup), (27, .pu s_rtarget), (29, .pu s_rtaken), (28, .pu s_r30trap), (30, .pu s_rcut), (31, .pu s_r30atom), (32, .fp s_names), (33, .pu s_r21call), (20, .pu s_r30word)]) hmix (TabOk.cons (e := .pu s_rksize) ok_rksize (TabOk.cons (e := .pu s_rclass) ok_rclass (TabOk.cons (e := .pu s_rfind) ok_rfind (TabOk.cons (e := .pu s_rhas) ok_rhas (TabOk.cons (e := .pu s_rdo7) ok_rdo7 (TabOk.cons (e := .pu s_rup) ok_rup (TabOk.cons (e := .pu s_rtarget) ok_rtarget (TabOk.cons (e := .pu s_rtaken) ok_rtaken (TabOk.cons (e := .pu s_r30trap) ok_r30trap (TabOk.cons (e := .pu s_rcut) ok_rcut (TabOk.cons (e := .pu s_r30atom) ok_r30atom (TabOk.cons (e := .fp s_names) ok_names (TabOk.cons (e := .pu s_r21call) ok_r21call (TabOk.cons (e := .pu s_r30word) ok_r30word TabOk.nil)))))))))))))) Tryz.func7 rfl Tryz.results7 Tryz.ntmps7 (by kernel_rfl) (by kernel_rfl) ?_
  intro args v h
  unfold s_rd5 at h
  split at h
  · rename_i op rd r1 r2 im cs aq rl pc ws pr
    split at h
    · rename_i hc
      simp only [Option.some.injEq] at h; subst h
      obtain ⟨hw, hc⟩ := hc
      have pz := (isEff_len (doL_eff op rd im pc (wdS ws r1) (wdS ws r2) pr)).2.2.1
      have pw : ws.all Sc.pf = true := by obtain ⟨W, rfl, _⟩ := hw; exact (us_pf W).1
      refine ⟨by simp only [List.length_cons, List.length_nil]; decide, by first | rfl | simp only [List.all_cons, List.all_nil, AV.pf, Sc.pf, Bool.and_true, *], by first | rfl | simp only [List.all_cons, List.all_nil, AV.pf, Sc.pf, Bool.and_true, *], ?_⟩
      have ow : ws.all Sc.one = true := by obtain ⟨W, rfl, _⟩ := hw; exact (us_pf W).2.1
      have lw : ws.length = 32 := by obtain ⟨W, rfl, hl⟩ := hw; simpa using hl
      have tw : ws.take 32 = ws := by rw [← lw, List.take_length]
      obtain ⟨e1, i1⟩ := size_w op
      have i0 : inR 0 := ⟨by omega, by omega⟩
      generalize ha : wdS ws r1 = a at *
      generalize hb : wdS ws r2 = b at *
      rcases hc with hc | hc
      all_goals (try simp (config := { maxSteps := 10000000 }) only [go_sem, List.reduceReplicate, BitVec.reduceOfInt, BitVec.reduceToNat, BitVec.reduceToInt, BitVec.reduceEq, BitVec.reduceLT, BitVec.reduceLE, BitVec.reduceAdd, BitVec.reduceSub, BitVec.reduceMul, BitVec.reduceUDiv, BitVec.reduceUMod, BitVec.reduceAnd, BitVec.reduceOr, BitVec.reduceXOr, BitVec.reduceNot, BitVec.reduceNeg, BitVec.reduceHShiftLeft, BitVec.reduceHShiftRight, Nat.reduceAdd, Nat.reduceMul, Nat.reduceSub, Nat.reduceBEq, Nat.reduceEqDiff, Nat.reduceLeDiff, Nat.reduceLT, Int.reduceLE, Int.reduceLT, Int.reduceAdd, Int.reduceSub, Int.reduceMul, Int.reduceNeg, Int.reduceToNat, Int.reduceEq, ↓reduceIte, reduceCtorEq, s_rksize_eq, s_rclass_eq, s_rfind_eq, s_rhas_eq, s_rdo7_eq, s_rup_eq, s_rtarget_eq, s_rtaken_eq, s_r30trap_eq, s_rcut_eq, s_r30atom_eq, s_names_eq, s_r21call_eq, s_r30word_eq, lw, ow, tw, hw, ha, hb, hc, e1, i1, i0, cut_low, doL, effL]; repeat (simp (disch := omega) only [w64_d, ipos, ineg, dpos, dneg]; try simp (config := { maxSteps := 10000000 }) only [go_sem, List.reduceReplicate, BitVec.reduceOfInt, BitVec.reduceToNat, BitVec.reduceToInt, BitVec.reduceEq, BitVec.reduceLT, BitVec.reduceLE, BitVec.reduceAdd, BitVec.reduceSub, BitVec.reduceMul, BitVec.reduceUDiv, BitVec.reduceUMod, BitVec.reduceAnd, BitVec.reduceOr, BitVec.reduceXOr, BitVec.reduceNot, BitVec.reduceNeg, BitVec.reduceHShiftLeft, BitVec.reduceHShiftRight, Nat.reduceAdd, Nat.reduceMul, Nat.reduceSub, Nat.reduceBEq, Nat.reduceEqDiff, Nat.reduceLeDiff, Nat.reduceLT, Int.reduceLE, Int.reduceLT, Int.reduceAdd, Int.reduceSub, Int.reduceMul, Int.reduceNeg, Int.reduceToNat, Int.reduceEq, ↓reduceIte, reduceCtorEq, s_rksize_eq, s_rclass_eq, s_rfind_eq, s_rhas_eq, s_rdo7_eq, s_rup_eq, s_rtarget_eq, s_rtaken_eq, s_r30trap_eq, s_rcut_eq, s_r30atom_eq, s_names_eq, s_r21call_eq, s_r30word_eq, lw, ow, tw, hw, ha, hb, hc, e1, i1, i0, cut_low, doL, effL]))
    · simp at h
  · simp at h
set_option maxHeartbeats 8000000 in
def s_rd7 (args : List AV) : Option AV :=
  match args with
  | [.g [.i op, .i rd, .i r1, .i r2, .i im, .i cs, .b aq, .b rl], .c (.u pc), .g ws, .c (.i pr)] => if isU32 ws ∧ (classI op = 7) then some (.g (doL op rd im pc (wdS ws r1) (wdS ws r2) pr)) else none
  | _ => none
theorem s_rd7_eq {op rd r1 r2 im cs aq rl pc ws pr} : s_rd7 [.g [.i op, .i rd, .i r1, .i r2, .i im, .i cs, .b aq, .b rl], .c (.u pc), .g ws, .c (.i pr)] = if isU32 ws ∧ (classI op = 7) then some (.g (doL op rd im pc (wdS ws r1) (wdS ws r2) pr)) else none := rfl
set_option maxRecDepth 100000 in
set_option maxHeartbeats 2000000 in
theorem ok_rd7 : PuOk Tryz.prog 7 s_rd7 := by
  refine pu_ok (tab := [(21, .pu s_rksize), (22, .pu s_rclass), (24, .pu s_rfind), (23, .pu s_rhas), (25, .pu s_rdo7), (26, .pu s_rup), (27, .pu s_rtarget), (29, .pu s_rtaken), (28, .pu s_r30trap), (30, .pu s_rcut), (31, .pu s_r30atom), (32, .fp s_names), (33, .pu s_r21call), (20, .pu s_r30word)]) hmix (TabOk.cons (e := .pu s_rksize) ok_rksize (TabOk.cons (e := .pu s_rclass) ok_rclass (TabOk.cons (e := .pu s_rfind) ok_rfind (TabOk.cons (e := .pu s_rhas) ok_rhas (TabOk.cons (e := .pu s_rdo7) ok_rdo7 (TabOk.cons (e := .pu s_rup) ok_rup (TabOk.cons (e := .pu s_rtarget) ok_rtarget (TabOk.cons (e := .pu s_rtaken) ok_rtaken (TabOk.cons (e := .pu s_r30trap) ok_r30trap (TabOk.cons (e := .pu s_rcut) ok_rcut (TabOk.cons (e := .pu s_r30atom) ok_r30atom (TabOk.cons (e := .fp s_names) ok_names (TabOk.cons (e := .pu s_r21call) ok_r21call (TabOk.cons (e := .pu s_r30word) ok_r30word TabOk.nil)))))))))))))) Tryz.func7 rfl Tryz.results7 Tryz.ntmps7 (by kernel_rfl) (by kernel_rfl) ?_
  intro args v h
  unfold s_rd7 at h
  split at h
  · rename_i op rd r1 r2 im cs aq rl pc ws pr
    split at h
    · rename_i hc
      simp only [Option.some.injEq] at h; subst h
      obtain ⟨hw, hc⟩ := hc
      have pz := (isEff_len (doL_eff op rd im pc (wdS ws r1) (wdS ws r2) pr)).2.2.1
      have pw : ws.all Sc.pf = true := by obtain ⟨W, rfl, _⟩ := hw; exact (us_pf W).1
      refine ⟨by simp only [List.length_cons, List.length_nil]; decide, by first | rfl | simp only [List.all_cons, List.all_nil, AV.pf, Sc.pf, Bool.and_true, *], by first | rfl | simp only [List.all_cons, List.all_nil, AV.pf, Sc.pf, Bool.and_true, *], ?_⟩
      have ow : ws.all Sc.one = true := by obtain ⟨W, rfl, _⟩ := hw; exact (us_pf W).2.1
      have lw : ws.length = 32 := by obtain ⟨W, rfl, hl⟩ := hw; simpa using hl
      have tw : ws.take 32 = ws := by rw [← lw, List.take_length]
      obtain ⟨e1, i1⟩ := size_w op
      have i0 : inR 0 := ⟨by omega, by omega⟩
      generalize ha : wdS ws r1 = a at *
      generalize hb : wdS ws r2 = b at *
      obtain ⟨y1, y2, y3, y4⟩ := isEff_len (atomL_eff op rd pc a b)
      have ty : (atomL op rd pc a b).take 12 = atomL op rd pc a b := by rw [← y1, List.take_length]
      (try simp (config := { maxSteps := 10000000 }) only [go_sem, List.reduceReplicate, BitVec.reduceOfInt, BitVec.reduceToNat, BitVec.reduceToInt, BitVec.reduceEq, BitVec.reduceLT, BitVec.reduceLE, BitVec.reduceAdd, BitVec.reduceSub, BitVec.reduceMul, BitVec.reduceUDiv, BitVec.reduceUMod, BitVec.reduceAnd, BitVec.reduceOr, BitVec.reduceXOr, BitVec.reduceNot, BitVec.reduceNeg, BitVec.reduceHShiftLeft, BitVec.reduceHShiftRight, Nat.reduceAdd, Nat.reduceMul, Nat.reduceSub, Nat.reduceBEq, Nat.reduceEqDiff, Nat.reduceLeDiff, Nat.reduceLT, Int.reduceLE, Int.reduceLT, Int.reduceAdd, Int.reduceSub, Int.reduceMul, Int.reduceNeg, Int.reduceToNat, Int.reduceEq, ↓reduceIte, reduceCtorEq, s_rksize_eq, s_rclass_eq, s_rfind_eq, s_rhas_eq, s_rdo7_eq, s_rup_eq, s_rtarget_eq, s_rtaken_eq, s_r30trap_eq, s_rcut_eq, s_r30atom_eq, s_names_eq, s_r21call_eq, s_r30word_eq, lw, ow, tw, hw, ha, hb, hc, doL, y1, y2, ty]; repeat (simp (disch := omega) only [w64_d, ipos, ineg, dpos, dneg]; try simp (config := { maxSteps := 10000000 }) only [go_sem, List.reduceReplicate, BitVec.reduceOfInt, BitVec.reduceToNat, BitVec.reduceToInt, BitVec.reduceEq, BitVec.reduceLT, BitVec.reduceLE, BitVec.reduceAdd, BitVec.reduceSub, BitVec.reduceMul, BitVec.reduceUDiv, BitVec.reduceUMod, BitVec.reduceAnd, BitVec.reduceOr, BitVec.reduceXOr, BitVec.reduceNot, BitVec.reduceNeg, BitVec.reduceHShiftLeft, BitVec.reduceHShiftRight, Nat.reduceAdd, Nat.reduceMul, Nat.reduceSub, Nat.reduceBEq, Nat.reduceEqDiff, Nat.reduceLeDiff, Nat.reduceLT, Int.reduceLE, Int.reduceLT, Int.reduceAdd, Int.reduceSub, Int.reduceMul, Int.reduceNeg, Int.reduceToNat, Int.reduceEq, ↓reduceIte, reduceCtorEq, s_rksize_eq, s_rclass_eq, s_rfind_eq, s_rhas_eq, s_rdo7_eq, s_rup_eq, s_rtarget_eq, s_rtaken_eq, s_r30trap_eq, s_rcut_eq, s_r30atom_eq, s_names_eq, s_r21call_eq, s_r30word_eq, lw, ow, tw, hw, ha, hb, hc, doL, y1, y2, ty]))
    · simp at h
  · simp at h
set_option maxHeartbeats 8000000 in
def s_rd10 (args : List AV) : Option AV :=
  match args with
  | [.g [.i op, .i rd, .i r1, .i r2, .i im, .i cs, .b aq, .b rl], .c (.u pc), .g ws, .c (.i pr)] => if isU32 ws ∧ (classI op = 10) then some (.g (doL op rd im pc (wdS ws r1) (wdS ws r2) pr)) else none
  | _ => none
theorem s_rd10_eq {op rd r1 r2 im cs aq rl pc ws pr} : s_rd10 [.g [.i op, .i rd, .i r1, .i r2, .i im, .i cs, .b aq, .b rl], .c (.u pc), .g ws, .c (.i pr)] = if isU32 ws ∧ (classI op = 10) then some (.g (doL op rd im pc (wdS ws r1) (wdS ws r2) pr)) else none := rfl
set_option maxRecDepth 100000 in
set_option maxHeartbeats 2000000 in
theorem ok_rd10 : PuOk Tryz.prog 7 s_rd10 := by
  refine pu_ok (tab := [(21, .pu s_rksize), (22, .pu s_rclass), (24, .pu s_rfind), (23, .pu s_rhas), (25, .pu s_rdo7), (26, .pu s_rup), (27, .pu s_rtarget), (29, .pu s_rtaken), (28, .pu s_r30trap), (30, .pu s_rcut), (31, .pu s_r30atom), (32, .fp s_names), (33, .pu s_r21call), (20, .pu s_r30word)]) hmix (TabOk.cons (e := .pu s_rksize) ok_rksize (TabOk.cons (e := .pu s_rclass) ok_rclass (TabOk.cons (e := .pu s_rfind) ok_rfind (TabOk.cons (e := .pu s_rhas) ok_rhas (TabOk.cons (e := .pu s_rdo7) ok_rdo7 (TabOk.cons (e := .pu s_rup) ok_rup (TabOk.cons (e := .pu s_rtarget) ok_rtarget (TabOk.cons (e := .pu s_rtaken) ok_rtaken (TabOk.cons (e := .pu s_r30trap) ok_r30trap (TabOk.cons (e := .pu s_rcut) ok_rcut (TabOk.cons (e := .pu s_r30atom) ok_r30atom (TabOk.cons (e := .fp s_names) ok_names (TabOk.cons (e := .pu s_r21call) ok_r21call (TabOk.cons (e := .pu s_r30word) ok_r30word TabOk.nil)))))))))))))) Tryz.func7 rfl Tryz.results7 Tryz.ntmps7 (by kernel_rfl) (by kernel_rfl) ?_
  intro args v h
  unfold s_rd10 at h
  split at h
  · rename_i op rd r1 r2 im cs aq rl pc ws pr
    split at h
    · rename_i hc
      simp only [Option.some.injEq] at h; subst h
      obtain ⟨hw, hc⟩ := hc
      have pz := (isEff_len (doL_eff op rd im pc (wdS ws r1) (wdS ws r2) pr)).2.2.1
      have pw : ws.all Sc.pf = true := by obtain ⟨W, rfl, _⟩ := hw; exact (us_pf W).1
      refine ⟨by simp only [List.length_cons, List.length_nil]; decide, by first | rfl | simp only [List.all_cons, List.all_nil, AV.pf, Sc.pf, Bool.and_true, *], by first | rfl | simp only [List.all_cons, List.all_nil, AV.pf, Sc.pf, Bool.and_true, *], ?_⟩
      have ow : ws.all Sc.one = true := by obtain ⟨W, rfl, _⟩ := hw; exact (us_pf W).2.1
      have lw : ws.length = 32 := by obtain ⟨W, rfl, hl⟩ := hw; simpa using hl
      have tw : ws.take 32 = ws := by rw [← lw, List.take_length]
      obtain ⟨e1, i1⟩ := size_w op
      have i0 : inR 0 := ⟨by omega, by omega⟩
      generalize ha : wdS ws r1 = a at *
      generalize hb : wdS ws r2 = b at *
      obtain ⟨k1, k2⟩ := class_ne0 (op := op) (by rw [hc]; decide)
      obtain ⟨k, rfl⟩ := Int.eq_ofNat_of_zero_le (by omega : 0 ≤ op)
      have g := nmL_get (k := k) (by omega)
      obtain ⟨q1, q2⟩ := ecall_n k (by omega) hc
      by_cases h1 : k = 52
      · have h1' : ((k : Int) = 52) := by omega
        have e : doL (k : Int) rd im pc a b pr = trapL (callI pr) 0#64 := by
          unfold doL
          rw [if_neg (by rw [hc]; decide), if_neg (by rw [hc]; decide), if_neg (by rw [hc]; decide), if_neg (by rw [hc]; decide), if_neg (by rw [hc]; decide), if_neg (by rw [hc]; decide), if_neg (by rw [hc]; decide), if_neg (by rw [hc]; decide), if_pos h1']
        (try simp (config := { maxSteps := 10000000 }) only [go_sem, List.reduceReplicate, BitVec.reduceOfInt, BitVec.reduceToNat, BitVec.reduceToInt, BitVec.reduceEq, BitVec.reduceLT, BitVec.reduceLE, BitVec.reduceAdd, BitVec.reduceSub, BitVec.reduceMul, BitVec.reduceUDiv, BitVec.reduceUMod, BitVec.reduceAnd, BitVec.reduceOr, BitVec.reduceXOr, BitVec.reduceNot, BitVec.reduceNeg, BitVec.reduceHShiftLeft, BitVec.reduceHShiftRight, Nat.reduceAdd, Nat.reduceMul, Nat.reduceSub, Nat.reduceBEq, Nat.reduceEqDiff, Nat.reduceLeDiff, Nat.reduceLT, Int.reduceLE, Int.reduceLT, Int.reduceAdd, Int.reduceSub, Int.reduceMul, Int.reduceNeg, Int.reduceToNat, Int.reduceEq, ↓reduceIte, reduceCtorEq, s_rksize_eq, s_rclass_eq, s_rfind_eq, s_rhas_eq, s_rdo7_eq, s_rup_eq, s_rtarget_eq, s_rtaken_eq, s_r30trap_eq, s_rcut_eq, s_r30atom_eq, s_names_eq, s_r21call_eq, s_r30word_eq, lw, ow, tw, hw, ha, hb, hc, nmL_len, g, q1.trans (decide_eq_true h1), q2.trans (decide_eq_false (by omega : ¬ k = 53)), e, trapL, effL]; repeat (simp (disch := omega) only [w64_d, ipos, ineg, dpos, dneg]; try simp (config := { maxSteps := 10000000 }) only [go_sem, List.reduceReplicate, BitVec.reduceOfInt, BitVec.reduceToNat, BitVec.reduceToInt, BitVec.reduceEq, BitVec.reduceLT, BitVec.reduceLE, BitVec.reduceAdd, BitVec.reduceSub, BitVec.reduceMul, BitVec.reduceUDiv, BitVec.reduceUMod, BitVec.reduceAnd, BitVec.reduceOr, BitVec.reduceXOr, BitVec.reduceNot, BitVec.reduceNeg, BitVec.reduceHShiftLeft, BitVec.reduceHShiftRight, Nat.reduceAdd, Nat.reduceMul, Nat.reduceSub, Nat.reduceBEq, Nat.reduceEqDiff, Nat.reduceLeDiff, Nat.reduceLT, Int.reduceLE, Int.reduceLT, Int.reduceAdd, Int.reduceSub, Int.reduceMul, Int.reduceNeg, Int.reduceToNat, Int.reduceEq, ↓reduceIte, reduceCtorEq, s_rksize_eq, s_rclass_eq, s_rfind_eq, s_rhas_eq, s_rdo7_eq, s_rup_eq, s_rtarget_eq, s_rtaken_eq, s_r30trap_eq, s_rcut_eq, s_r30atom_eq, s_names_eq, s_r21call_eq, s_r30word_eq, lw, ow, tw, hw, ha, hb, hc, nmL_len, g, q1.trans (decide_eq_true h1), q2.trans (decide_eq_false (by omega : ¬ k = 53)), e, trapL, effL]))
      by_cases h2 : k = 53
      · have h1' : ¬ ((k : Int) = 52) := by omega
        have h2' : ((k : Int) = 53) := by omega
        have e : doL (k : Int) rd im pc a b pr = trapL 3 pc := by
          unfold doL
          rw [if_neg (by rw [hc]; decide), if_neg (by rw [hc]; decide), if_neg (by rw [hc]; decide), if_neg (by rw [hc]; decide), if_neg (by rw [hc]; decide), if_neg (by rw [hc]; decide), if_neg (by rw [hc]; decide), if_neg (by rw [hc]; decide), if_neg h1', if_pos h2']
        (try simp (config := { maxSteps := 10000000 }) only [go_sem, List.reduceReplicate, BitVec.reduceOfInt, BitVec.reduceToNat, BitVec.reduceToInt, BitVec.reduceEq, BitVec.reduceLT, BitVec.reduceLE, BitVec.reduceAdd, BitVec.reduceSub, BitVec.reduceMul, BitVec.reduceUDiv, BitVec.reduceUMod, BitVec.reduceAnd, BitVec.reduceOr, BitVec.reduceXOr, BitVec.reduceNot, BitVec.reduceNeg, BitVec.reduceHShiftLeft, BitVec.reduceHShiftRight, Nat.reduceAdd, Nat.reduceMul, Nat.reduceSub, Nat.reduceBEq, Nat.reduceEqDiff, Nat.reduceLeDiff, Nat.reduceLT, Int.reduceLE, Int.reduceLT, Int.reduceAdd, Int.reduceSub, Int.reduceMul, Int.reduceNeg, Int.reduceToNat, Int.reduceEq, ↓reduceIte, reduceCtorEq, s_rksize_eq, s_rclass_eq, s_rfind_eq, s_rhas_eq, s_rdo7_eq, s_rup_eq, s_rtarget_eq, s_rtaken_eq, s_r30trap_eq, s_rcut_eq, s_r30atom_eq, s_names_eq, s_r21call_eq, s_r30word_eq, lw, ow, tw, hw, ha, hb, hc, nmL_len, g, q1.trans (decide_eq_false h1), q2.trans (decide_eq_true h2), e, exc_b.1, exc_b.2, trapL, effL]; repeat (simp (disch := omega) only [w64_d, ipos, ineg, dpos, dneg]; try simp (config := { maxSteps := 10000000 }) only [go_sem, List.reduceReplicate, BitVec.reduceOfInt, BitVec.reduceToNat, BitVec.reduceToInt, BitVec.reduceEq, BitVec.reduceLT, BitVec.reduceLE, BitVec.reduceAdd, BitVec.reduceSub, BitVec.reduceMul, BitVec.reduceUDiv, BitVec.reduceUMod, BitVec.reduceAnd, BitVec.reduceOr, BitVec.reduceXOr, BitVec.reduceNot, BitVec.reduceNeg, BitVec.reduceHShiftLeft, BitVec.reduceHShiftRight, Nat.reduceAdd, Nat.reduceMul, Nat.reduceSub, Nat.reduceBEq, Nat.reduceEqDiff, Nat.reduceLeDiff, Nat.reduceLT, Int.reduceLE, Int.reduceLT, Int.reduceAdd, Int.reduceSub, Int.reduceMul, Int.reduceNeg, Int.reduceToNat, Int.reduceEq, ↓reduceIte, reduceCtorEq, s_rksize_eq, s_rclass_eq, s_rfind_eq, s_rhas_eq, s_rdo7_eq, s_rup_eq, s_rtarget_eq, s_rtaken_eq, s_r30trap_eq, s_rcut_eq, s_r30atom_eq, s_names_eq, s_r21call_eq, s_r30word_eq, lw, ow, tw, hw, ha, hb, hc, nmL_len, g, q1.trans (decide_eq_false h1), q2.trans (decide_eq_true h2), e, exc_b.1, exc_b.2, trapL, effL]))
      · have h1' : ¬ ((k : Int) = 52) := by omega
        have h2' : ¬ ((k : Int) = 53) := by omega
        (try simp (config := { maxSteps := 10000000 }) only [go_sem, List.reduceReplicate, BitVec.reduceOfInt, BitVec.reduceToNat, BitVec.reduceToInt, BitVec.reduceEq, BitVec.reduceLT, BitVec.reduceLE, BitVec.reduceAdd, BitVec.reduceSub, BitVec.reduceMul, BitVec.reduceUDiv, BitVec.reduceUMod, BitVec.reduceAnd, BitVec.reduceOr, BitVec.reduceXOr, BitVec.reduceNot, BitVec.reduceNeg, BitVec.reduceHShiftLeft, BitVec.reduceHShiftRight, Nat.reduceAdd, Nat.reduceMul, Nat.reduceSub, Nat.reduceBEq, Nat.reduceEqDiff, Nat.reduceLeDiff, Nat.reduceLT, Int.reduceLE, Int.reduceLT, Int.reduceAdd, Int.reduceSub, Int.reduceMul, Int.reduceNeg, Int.reduceToNat, Int.reduceEq, ↓reduceIte, reduceCtorEq, s_rksize_eq, s_rclass_eq, s_rfind_eq, s_rhas_eq, s_rdo7_eq, s_rup_eq, s_rtarget_eq, s_rtaken_eq, s_r30trap_eq, s_rcut_eq, s_r30atom_eq, s_names_eq, s_r21call_eq, s_r30word_eq, lw, ow, tw, hw, ha, hb, hc, nmL_len, g, q1, q2, h1, h2, h1', h2', doL, trapL, effL]; repeat (simp (disch := omega) only [w64_d, ipos, ineg, dpos, dneg]; try simp (config := { maxSteps := 10000000 }) only [go_sem, List.reduceReplicate, BitVec.reduceOfInt, BitVec.reduceToNat, BitVec.reduceToInt, BitVec.reduceEq, BitVec.reduceLT, BitVec.reduceLE, BitVec.reduceAdd, BitVec.reduceSub, BitVec.reduceMul, BitVec.reduceUDiv, BitVec.reduceUMod, BitVec.reduceAnd, BitVec.reduceOr, BitVec.reduceXOr, BitVec.reduceNot, BitVec.reduceNeg, BitVec.reduceHShiftLeft, BitVec.reduceHShiftRight, Nat.reduceAdd, Nat.reduceMul, Nat.reduceSub, Nat.reduceBEq, Nat.reduceEqDiff, Nat.reduceLeDiff, Nat.reduceLT, Int.reduceLE, Int.reduceLT, Int.reduceAdd, Int.reduceSub, Int.reduceMul, Int.reduceNeg, Int.reduceToNat, Int.reduceEq, ↓reduceIte, reduceCtorEq, s_rksize_eq, s_rclass_eq, s_rfind_eq, s_rhas_eq, s_rdo7_eq, s_rup_eq, s_rtarget_eq, s_rtaken_eq, s_r30trap_eq, s_rcut_eq, s_r30atom_eq, s_names_eq, s_r21call_eq, s_r30word_eq, lw, ow, tw, hw, ha, hb, hc, nmL_len, g, q1, q2, h1, h2, h1', h2', doL, trapL, effL]))
    · simp at h
  · simp at h
set_option maxHeartbeats 8000000 in
def s_rd0 (args : List AV) : Option AV :=
  match args with
  | [.g [.i op, .i rd, .i r1, .i r2, .i im, .i cs, .b aq, .b rl], .c (.u pc), .g ws, .c (.i pr)] => if isU32 ws ∧ (classI op = 0 ∨ classI op = 8) then some (.g (doL op rd im pc (wdS ws r1) (wdS ws r2) pr)) else none
  | _ => none
theorem s_rd0_eq {op rd r1 r2 im cs aq rl pc ws pr} : s_rd0 [.g [.i op, .i rd, .i r1, .i r2, .i im, .i cs, .b aq, .b rl], .c (.u pc), .g ws, .c (.i pr)] = if isU32 ws ∧ (classI op = 0 ∨ classI op = 8) then some (.g (doL op rd im pc (wdS ws r1) (wdS ws r2) pr)) else none := rfl
set_option maxRecDepth 100000 in
set_option maxHeartbeats 2000000 in
theorem ok_rd0 : PuOk Tryz.prog 7 s_rd0 := by
  refine pu_ok (tab := [(21, .pu s_rksize), (22, .pu s_rclass), (24, .pu s_rfind), (23, .pu s_rhas), (25, .pu s_rdo7), (26, .pu s_rup), (27, .pu s_rtarget), (29, .pu s_rtaken), (28, .pu s_r30trap), (30, .pu s_rcut), (31, .pu s_r30atom), (32, .fp s_names), (33, .pu s_r21call), (20, .pu s_r30word)]) hmix (TabOk.cons (e := .pu s_rksize) ok_rksize (TabOk.cons (e := .pu s_rclass) ok_rclass (TabOk.cons (e := .pu s_rfind) ok_rfind (TabOk.cons (e := .pu s_rhas) ok_rhas (TabOk.cons (e := .pu s_rdo7) ok_rdo7 (TabOk.cons (e := .pu s_rup) ok_rup (TabOk.cons (e := .pu s_rtarget) ok_rtarget (TabOk.cons (e := .pu s_rtaken) ok_rtaken (TabOk.cons (e := .pu s_r30trap) ok_r30trap (TabOk.cons (e := .pu s_rcut) ok_rcut (TabOk.cons (e := .pu s_r30atom) ok_r30atom (TabOk.cons (e := .fp s_names) ok_names (TabOk.cons (e := .pu s_r21call) ok_r21call (TabOk.cons (e := .pu s_r30word) ok_r30word TabOk.nil)))))))))))))) Tryz.func7 rfl Tryz.results7 Tryz.ntmps7 (by kernel_rfl) (by kernel_rfl) ?_
  intro args v h
  unfold s_rd0 at h
  split at h
  · rename_i op rd r1 r2 im cs aq rl pc ws pr
    split at h
    · rename_i hc
      simp only [Option.some.injEq] at h; subst h
      obtain ⟨hw, hc⟩ := hc
      have pz := (isEff_len (doL_eff op rd im pc (wdS ws r1) (wdS ws r2) pr)).2.2.1
      have pw : ws.all Sc.pf = true := by obtain ⟨W, rfl, _⟩ := hw; exact (us_pf W).1
      refine ⟨by simp only [List.length_cons, List.length_nil]; decide, by first | rfl | simp only [List.all_cons, List.all_nil, AV.pf, Sc.pf, Bool.and_true, *], by first | rfl | simp only [List.all_cons, List.all_nil, AV.pf, Sc.pf, Bool.and_true, *], ?_⟩
      have ow : ws.all Sc.one = true := by obtain ⟨W, rfl, _⟩ := hw; exact (us_pf W).2.1
      have lw : ws.length = 32 := by obtain ⟨W, rfl, hl⟩ := hw; simpa using hl
      have tw : ws.take 32 = ws := by rw [← lw, List.take_length]
      obtain ⟨e1, i1⟩ := size_w op
      have i0 : inR 0 := ⟨by omega, by omega⟩
      generalize ha : wdS ws r1 = a at *
      generalize hb : wdS ws r2 = b at *
      have n1 : ¬ op = 52 := fun h => by have := class_52 (.inl h); omega
      have n2 : ¬ op = 53 := fun h => by have := class_52 (.inr h); omega
      rcases hc with hc | hc
      all_goals (try simp (config := { maxSteps := 10000000 }) only [go_sem, List.reduceReplicate, BitVec.reduceOfInt, BitVec.reduceToNat, BitVec.reduceToInt, BitVec.reduceEq, BitVec.reduceLT, BitVec.reduceLE, BitVec.reduceAdd, BitVec.reduceSub, BitVec.reduceMul, BitVec.reduceUDiv, BitVec.reduceUMod, BitVec.reduceAnd, BitVec.reduceOr, BitVec.reduceXOr, BitVec.reduceNot, BitVec.reduceNeg, BitVec.reduceHShiftLeft, BitVec.reduceHShiftRight, Nat.reduceAdd, Nat.reduceMul, Nat.reduceSub, Nat.reduceBEq, Nat.reduceEqDiff, Nat.reduceLeDiff, Nat.reduceLT, Int.reduceLE, Int.reduceLT, Int.reduceAdd, Int.reduceSub, Int.reduceMul, Int.reduceNeg, Int.reduceToNat, Int.reduceEq, ↓reduceIte, reduceCtorEq, s_rksize_eq, s_rclass_eq, s_rfind_eq, s_rhas_eq, s_rdo7_eq, s_rup_eq, s_rtarget_eq, s_rtaken_eq, s_r30trap_eq, s_rcut_eq, s_r30atom_eq, s_names_eq, s_r21call_eq, s_r30word_eq, lw, ow, tw, hw, ha, hb, hc, n1, n2, doL, effL]; repeat (simp (disch := omega) only [w64_d, ipos, ineg, dpos, dneg]; try simp (config := { maxSteps := 10000000 }) only [go_sem, List.reduceReplicate, BitVec.reduceOfInt, BitVec.reduceToNat, BitVec.reduceToInt, BitVec.reduceEq, BitVec.reduceLT, BitVec.reduceLE, BitVec.reduceAdd, BitVec.reduceSub, BitVec.reduceMul, BitVec.reduceUDiv, BitVec.reduceUMod, BitVec.reduceAnd, BitVec.reduceOr, BitVec.reduceXOr, BitVec.reduceNot, BitVec.reduceNeg, BitVec.reduceHShiftLeft, BitVec.reduceHShiftRight, Nat.reduceAdd, Nat.reduceMul, Nat.reduceSub, Nat.reduceBEq, Nat.reduceEqDiff, Nat.reduceLeDiff, Nat.reduceLT, Int.reduceLE, Int.reduceLT, Int.reduceAdd, Int.reduceSub, Int.reduceMul, Int.reduceNeg, Int.reduceToNat, Int.reduceEq, ↓reduceIte, reduceCtorEq, s_rksize_eq, s_rclass_eq, s_rfind_eq, s_rhas_eq, s_rdo7_eq, s_rup_eq, s_rtarget_eq, s_rtaken_eq, s_r30trap_eq, s_rcut_eq, s_r30atom_eq, s_names_eq, s_r21call_eq, s_r30word_eq, lw, ow, tw, hw, ha, hb, hc, n1, n2, doL, effL]))
    · simp at h
  · simp at h

def s_rd30 (args : List AV) : Option AV :=
  match args with
  | [.g [.i op, .i rd, .i r1, .i r2, .i im, .i cs, .b aq, .b rl], .c (.u pc), .g ws, .c (.i pr)] => if isU32 ws then some (.g (doL op rd im pc (wdS ws r1) (wdS ws r2) pr)) else none
  | _ => none
theorem s_rd30_eq {op rd r1 r2 im cs : Int} {aq rl : Bool} {pc : BitVec 64} {ws : List Sc} {pr : Int} : s_rd30 [.g [.i op, .i rd, .i r1, .i r2, .i im, .i cs, .b aq, .b rl], .c (.u pc), .g ws, .c (.i pr)] = if isU32 ws then some (.g (doL op rd im pc (wdS ws r1) (wdS ws r2) pr)) else none := rfl
theorem ok_rd30 : PuOk Tryz.prog 7 s_rd30 :=
  ⟨ok_rd1.enters, fun args v hu ρ w cs hcs => by
    unfold s_rd30 at hu
    split at hu
    · rename_i op rd r1 r2 im cs aq rl pc ws pr
      split at hu
      · rename_i hw
        have c0 := class_r op
        have big : classI op = 1 ∨ (classI op = 2 ∨ classI op = 9) ∨ classI op = 3 ∨ classI op = 4 ∨ (classI op = 5 ∨ classI op = 6) ∨ classI op = 7 ∨ classI op = 10 ∨ (classI op = 0 ∨ classI op = 8) := by omega
        rcases big with h | h | h | h | h | h | h | h
        · exact ok_rd1.pure _ v (by rw [s_rd1_eq, if_pos ⟨hw, h⟩]; exact hu) ρ w _ hcs
        · exact ok_rd2.pure _ v (by rw [s_rd2_eq, if_pos ⟨hw, h⟩]; exact hu) ρ w _ hcs
        · exact ok_rd3.pure _ v (by rw [s_rd3_eq, if_pos ⟨hw, h⟩]; exact hu) ρ w _ hcs
        · exact ok_rd4.pure _ v (by rw [s_rd4_eq, if_pos ⟨hw, h⟩]; exact hu) ρ w _ hcs
        · exact ok_rd5.pure _ v (by rw [s_rd5_eq, if_pos ⟨hw, h⟩]; exact hu) ρ w _ hcs
        · exact ok_rd7.pure _ v (by rw [s_rd7_eq, if_pos ⟨hw, h⟩]; exact hu) ρ w _ hcs
        · exact ok_rd10.pure _ v (by rw [s_rd10_eq, if_pos ⟨hw, h⟩]; exact hu) ρ w _ hcs
        · exact ok_rd0.pure _ v (by rw [s_rd0_eq, if_pos ⟨hw, h⟩]; exact hu) ρ w _ hcs
      · simp at hu
    · simp at hu⟩
def s_xto (args : List AV) : Option AV :=
  match args with
  | [.g [.i k, .i rd, .u v, .u nx, .b it, .i cd, .u tv, .i ac, .i ak, .u va, .i sz, .u da]] => some (.g [.i k, .i rd, .u v, .u nx, .b it, .i cd, .u tv, .i ac, .i ak, .u va, .i sz, .u da])
  | _ => none
theorem s_xto_eq {k rd v nx it cd tv ac ak va sz da} : s_xto [.g [.i k, .i rd, .u v, .u nx, .b it, .i cd, .u tv, .i ac, .i ak, .u va, .i sz, .u da]] = some (.g [.i k, .i rd, .u v, .u nx, .b it, .i cd, .u tv, .i ac, .i ak, .u va, .i sz, .u da]) := rfl
set_option maxRecDepth 100000 in
set_option maxHeartbeats 2000000 in
theorem ok_xto : PuOk Tryz.prog 6 s_xto := by
  refine pu_ok (tab := []) hmix TabOk.nil Tryz.func6 rfl Tryz.results6 Tryz.ntmps6 (by kernel_rfl) (by kernel_rfl) ?_
  intro args v h
  unfold s_xto at h
  split at h
  · rename_i k rd v nx it cd tv ac ak va sz da
    simp only [Option.some.injEq] at h; subst h
    refine ⟨by simp only [List.length_cons, List.length_nil]; decide, rfl, rfl, ?_⟩
    (try simp (config := { maxSteps := 10000000 }) only [go_sem, List.reduceReplicate, BitVec.reduceOfInt, BitVec.reduceToNat, BitVec.reduceToInt, BitVec.reduceEq, BitVec.reduceLT, BitVec.reduceLE, BitVec.reduceAdd, BitVec.reduceSub, BitVec.reduceMul, BitVec.reduceUDiv, BitVec.reduceUMod, BitVec.reduceAnd, BitVec.reduceOr, BitVec.reduceXOr, BitVec.reduceNot, BitVec.reduceNeg, BitVec.reduceHShiftLeft, BitVec.reduceHShiftRight, Nat.reduceAdd, Nat.reduceMul, Nat.reduceSub, Nat.reduceBEq, Nat.reduceEqDiff, Nat.reduceLeDiff, Nat.reduceLT, Int.reduceLE, Int.reduceLT, Int.reduceAdd, Int.reduceSub, Int.reduceMul, Int.reduceNeg, Int.reduceToNat, Int.reduceEq, ↓reduceIte, reduceCtorEq]; repeat (simp (disch := omega) only [w64_d, ipos, ineg, dpos, dneg]; try simp (config := { maxSteps := 10000000 }) only [go_sem, List.reduceReplicate, BitVec.reduceOfInt, BitVec.reduceToNat, BitVec.reduceToInt, BitVec.reduceEq, BitVec.reduceLT, BitVec.reduceLE, BitVec.reduceAdd, BitVec.reduceSub, BitVec.reduceMul, BitVec.reduceUDiv, BitVec.reduceUMod, BitVec.reduceAnd, BitVec.reduceOr, BitVec.reduceXOr, BitVec.reduceNot, BitVec.reduceNeg, BitVec.reduceHShiftLeft, BitVec.reduceHShiftRight, Nat.reduceAdd, Nat.reduceMul, Nat.reduceSub, Nat.reduceBEq, Nat.reduceEqDiff, Nat.reduceLeDiff, Nat.reduceLT, Int.reduceLE, Int.reduceLT, Int.reduceAdd, Int.reduceSub, Int.reduceMul, Int.reduceNeg, Int.reduceToNat, Int.reduceEq, ↓reduceIte, reduceCtorEq]))
  · simp at h
theorem cs_refl (W : List (BitVec 64)) : ∀ n, W.length = n → csEq (List.replicate n .n) (W.map Sc.u) (W.map Sc.u) = some true := by
  intro n h
  subst h
  induction W with
  | nil => rfl
  | cons x W ih =>
    simp only [List.length_cons, List.replicate_succ, List.map_cons, csEq, scEq, ih]
    simp
def zer32 : List Sc := [.u 0#64, .u 0#64, .u 0#64, .u 0#64, .u 0#64, .u 0#64, .u 0#64, .u 0#64, .u 0#64, .u 0#64, .u 0#64, .u 0#64, .u 0#64, .u 0#64, .u 0#64, .u 0#64, .u 0#64, .u 0#64, .u 0#64, .u 0#64, .u 0#64, .u 0#64, .u 0#64, .u 0#64, .u 0#64, .u 0#64, .u 0#64, .u 0#64, .u 0#64, .u 0#64, .u 0#64, .u 0#64]
theorem zer_u : isU32 zer32 := ⟨List.replicate 32 0#64, rfl, rfl⟩
theorem zer_w (i : Int) : wdS zer32 i = 0#64 := by
  have : zer32 = .u 0#64 :: (List.replicate 31 0#64).map Sc.u := rfl
  rw [this, wd_eq (by rfl)]
  unfold rgW
  split
  · rw [show (0#64 :: List.replicate 31 0#64) = List.replicate 32 0#64 from rfl, List.getD_eq_getElem?_getD, List.getElem?_replicate]
    split <;> rfl
  · rfl
set_option maxHeartbeats 8000000 in
def s_xdoes (args : List AV) : Option AV :=
  match args with
  | [.g [.i op, .i rd, .i r1, .i r2, .i im, .i cs, .b aq, .b rl], .c (.u pc), .g ws, .c (.i pr)] => if isU32 ws then some (.c (.b true)) else none
  | _ => none
theorem s_xdoes_eq {op rd r1 r2 im cs aq rl pc ws pr} : s_xdoes [.g [.i op, .i rd, .i r1, .i r2, .i im, .i cs, .b aq, .b rl], .c (.u pc), .g ws, .c (.i pr)] = if isU32 ws then some (.c (.b true)) else none := rfl
set_option maxRecDepth 100000 in
set_option maxHeartbeats 2000000 in
theorem ok_xdoes : PuOk Tryz.prog 3 s_xdoes := by
  refine pu_ok (tab := [(4, .pu s_rof), (5, .fq s_edo), (6, .pu s_xto), (7, .pu s_rd30), (8, .pu s_xlive)]) hmix (TabOk.cons (e := .pu s_rof) ok_rof (TabOk.cons (e := .fq s_edo) ok_edo (TabOk.cons (e := .pu s_xto) ok_xto (TabOk.cons (e := .pu s_rd30) ok_rd30 (TabOk.cons (e := .pu s_xlive) ok_xlive TabOk.nil))))) Tryz.func3 rfl Tryz.results3 Tryz.ntmps3 (by kernel_rfl) (by kernel_rfl) ?_
  intro args v h
  unfold s_xdoes at h
  split at h
  · rename_i op rd r1 r2 im cs aq rl pc ws pr
    split at h
    · rename_i hc
      simp only [Option.some.injEq] at h; subst h
      have hw := hc
      obtain ⟨x, W, rfl, hl⟩ := isU32_inv hc
      obtain ⟨p1, p2, p3⟩ := us_pf W
      have px : (Sc.u x).pf = true := rfl
      refine ⟨by simp only [List.length_cons, List.length_nil]; decide, by first | rfl | simp only [List.all_cons, List.all_nil, AV.pf, Sc.pf, Bool.and_true, *], by first | rfl | simp only [List.all_cons, List.all_nil, AV.pf, Sc.pf, Bool.and_true, *], ?_⟩
      have tk : (W.map Sc.u).take 31 = W.map Sc.u := List.take_of_length_le (by simp [hl])
      have hz2 : rgOf [.own [.i op, .i rd, .i r1, .i r2, .i im, .i cs, .b aq, .b rl], .own (.u x :: W.map Sc.u), .own (.u 0#64 :: W.map Sc.u), .own (.u 0#64 :: W.map Sc.u)] (.p 2 0 0) = some (rgW (0#64 :: W)) := rg_of (W := 0#64 :: W) rfl (by simp [hl])
      have c31 := cs_refl W 31 hl
      simp only [List.replicate_succ, List.replicate_zero] at c31
      have w1 := fun i => wd_eq (x := x) hl i
      have rn : ∀ H, rgOf H .nilp = some fun _ => 0#64 := fun _ => rfl
      have zu := zer_u
      have zw := zer_w
      unfold zer32 at zu zw
      obtain ⟨k1, rd1, v1, nx1, cd1, tv1, ac1, ak1, va1, sz1, da1, e⟩ := doL_eff op rd im pc (rgW (0#64 :: W) r1) (rgW (0#64 :: W) r2) pr
      obtain ⟨k2, rd2, v2, nx2, cd2, tv2, ac2, ak2, va2, sz2, da2, e2⟩ := doL_eff op rd im pc 0#64 0#64 pr
      unfold effL at e e2
      (try simp (config := { maxSteps := 10000000 }) only [go_sem, List.reduceReplicate, BitVec.reduceOfInt, BitVec.reduceToNat, BitVec.reduceToInt, BitVec.reduceEq, BitVec.reduceLT, BitVec.reduceLE, BitVec.reduceAdd, BitVec.reduceSub, BitVec.reduceMul, BitVec.reduceUDiv, BitVec.reduceUMod, BitVec.reduceAnd, BitVec.reduceOr, BitVec.reduceXOr, BitVec.reduceNot, BitVec.reduceNeg, BitVec.reduceHShiftLeft, BitVec.reduceHShiftRight, Nat.reduceAdd, Nat.reduceMul, Nat.reduceSub, Nat.reduceBEq, Nat.reduceEqDiff, Nat.reduceLeDiff, Nat.reduceLT, Int.reduceLE, Int.reduceLT, Int.reduceAdd, Int.reduceSub, Int.reduceMul, Int.reduceNeg, Int.reduceToNat, Int.reduceEq, ↓reduceIte, reduceCtorEq, s_rof_eq, s_edo_eq, s_xto_eq, s_rd30_eq, s_xlive_eq, List.length_map, hl, tk, p2, hw, hz2, c31, w1, e, e2, rn, zu, zw]; repeat (simp (disch := omega) only [w64_d, ipos, ineg, dpos, dneg]; try simp (config := { maxSteps := 10000000 }) only [go_sem, List.reduceReplicate, BitVec.reduceOfInt, BitVec.reduceToNat, BitVec.reduceToInt, BitVec.reduceEq, BitVec.reduceLT, BitVec.reduceLE, BitVec.reduceAdd, BitVec.reduceSub, BitVec.reduceMul, BitVec.reduceUDiv, BitVec.reduceUMod, BitVec.reduceAnd, BitVec.reduceOr, BitVec.reduceXOr, BitVec.reduceNot, BitVec.reduceNeg, BitVec.reduceHShiftLeft, BitVec.reduceHShiftRight, Nat.reduceAdd, Nat.reduceMul, Nat.reduceSub, Nat.reduceBEq, Nat.reduceEqDiff, Nat.reduceLeDiff, Nat.reduceLT, Int.reduceLE, Int.reduceLT, Int.reduceAdd, Int.reduceSub, Int.reduceMul, Int.reduceNeg, Int.reduceToNat, Int.reduceEq, ↓reduceIte, reduceCtorEq, s_rof_eq, s_edo_eq, s_xto_eq, s_rd30_eq, s_xlive_eq, List.length_map, hl, tk, p2, hw, hz2, c31, w1, e, e2, rn, zu, zw]))
    · simp at h
  · simp at h

theorem fitU7 : ∀ {n : Nat} {l : List Sc}, L2 FitK l (List.replicate n (K.n .u64)) → ∃ W : List (BitVec 64), l = W.map Sc.u ∧ W.length = n
  | 0, l, h => by obtain rfl := fit_nil h; exact ⟨[], rfl, rfl⟩
  | n + 1, l, h => by
    obtain ⟨s0, t0, rfl, k0, g⟩ := fit_cons (List.replicate_succ ▸ h)
    obtain ⟨x, rfl⟩ := fk_u k0
    obtain ⟨W, rfl, hl⟩ := fitU7 g
    exact ⟨x :: W, rfl, by simp [hl]⟩
theorem sig_xdoes (avs : List AV) (H : AH) (h : SigA [.fl true ksI, .fl false [.n .u64], .fl true (List.replicate 32 (.n .u64)), .fl false [.n .i64]] avs H) : s_xdoes avs = some (.c (.b true)) := by
  obtain ⟨l0, r0, rfl, g0, h⟩ := sig_g h
  obtain ⟨s1, r1, rfl, k1, h⟩ := sig_c h
  obtain ⟨l2, r2, rfl, g2, h⟩ := sig_g h
  obtain ⟨s3, r3, rfl, k3, h⟩ := sig_c h
  obtain rfl := sig_nil h
  obtain ⟨op, rd, a1, a2, im, cs, aq, rl, rfl⟩ := fitI g0
  obtain ⟨pc, rfl⟩ := fk_u k1
  obtain ⟨pr, rfl, _⟩ := fk_i k3
  have : isU32 l2 := fitU7 g2
  rw [s_xdoes_eq, if_pos this]
end
end Go.Proofs.YtjlbgjhnhhihoaaGreat
