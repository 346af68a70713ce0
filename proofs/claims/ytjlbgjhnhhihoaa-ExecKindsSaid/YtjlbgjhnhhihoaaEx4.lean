/- Layer 30: each instruction does what its class does: the law. -/
import Derived.Test.YtjlbgjhnhhihoaaEx3
namespace Go.Proofs.Ytjlbgjhnhhihoaa
open Go.Am
set_option linter.unusedSimpArgs false
set_option linter.unusedVariables false
noncomputable section

/-- 32 words -/
def isU32 (l : List Sc) : Prop := ∃ W : List (BitVec 64), l = W.map Sc.u ∧ W.length = 32
instance (l : List Sc) : Decidable (isU32 l) := Classical.propDecidable _
theorem isU32_inv {l : List Sc} (h : isU32 l) : ∃ (x : BitVec 64) (W : List (BitVec 64)), l = .u x :: W.map Sc.u ∧ W.length = 31 := by
  obtain ⟨W, rfl, hl⟩ := h
  cases W with
  | nil => simp at hl
  | cons x W => exact ⟨x, W, rfl, by simpa using hl⟩
theorem us_pf (W : List (BitVec 64)) : (W.map Sc.u).all Sc.pf = true ∧ (W.map Sc.u).all Sc.one = true ∧ ∀ n, (W.map Sc.u).all (Sc.bel n) = true := by
  refine ⟨?_, ?_, fun n => ?_⟩ <;> (rw [List.all_eq_true]; intro s hs; obtain ⟨x, _, rfl⟩ := List.mem_map.1 hs; rfl)
def s_rof (args : List AV) : Option AV :=
  match args with
  | [.g ws] => if isU32 ws then some (.g (.u 0#64 :: ws.drop 1)) else none
  | _ => none
theorem s_rof_eq {ws} : s_rof [.g ws] = if isU32 ws then some (.g (.u 0#64 :: ws.drop 1)) else none := rfl
set_option maxRecDepth 100000 in
set_option maxHeartbeats 2000000 in
theorem ok_rof : PuOk Try.prog 8 s_rof := by
  refine pu_ok (tab := []) hmix TabOk.nil Try.func8 rfl Try.results8 Try.ntmps8 (by kernel_rfl) (by kernel_rfl) ?_
  intro args v h
  unfold s_rof at h
  split at h
  · rename_i ws
    split at h
    · rename_i hc
      simp only [Option.some.injEq] at h; subst h
      obtain ⟨x, W, rfl, hl⟩ := isU32_inv hc
      obtain ⟨p1, p2, p3⟩ := us_pf W
      have px : (Sc.u x).pf = true := rfl
      have p0 : (Sc.u 0#64).pf = true := rfl
      have pd : ((Sc.u x :: W.map Sc.u).drop 1).all Sc.pf = true := p1
      refine ⟨by simp only [List.length_cons, List.length_nil]; decide, by first | rfl | simp only [List.all_cons, List.all_nil, AV.pf, Sc.pf, Bool.and_true, *], by first | rfl | simp only [List.all_cons, List.all_nil, AV.pf, Sc.pf, Bool.and_true, *], ?_⟩
      have tk : (W.map Sc.u).take 31 = W.map Sc.u := List.take_of_length_le (by simp [hl])
      (try simp (config := { maxSteps := 10000000 }) only [go_sem, List.reduceReplicate, BitVec.reduceOfInt, BitVec.reduceToNat, BitVec.reduceToInt, BitVec.reduceEq, BitVec.reduceLT, BitVec.reduceLE, BitVec.reduceAdd, BitVec.reduceSub, BitVec.reduceMul, BitVec.reduceUDiv, BitVec.reduceUMod, BitVec.reduceAnd, BitVec.reduceOr, BitVec.reduceXOr, BitVec.reduceNot, BitVec.reduceNeg, BitVec.reduceHShiftLeft, BitVec.reduceHShiftRight, Nat.reduceAdd, Nat.reduceMul, Nat.reduceSub, Nat.reduceBEq, Nat.reduceEqDiff, Nat.reduceLeDiff, Nat.reduceLT, Int.reduceLE, Int.reduceLT, Int.reduceAdd, Int.reduceSub, Int.reduceMul, Int.reduceNeg, Int.reduceToNat, Int.reduceEq, ↓reduceIte, reduceCtorEq, List.length_map, hl, tk, p2]; repeat (simp (disch := omega) only [w64_d, ipos, ineg, dpos, dneg]; try simp (config := { maxSteps := 10000000 }) only [go_sem, List.reduceReplicate, BitVec.reduceOfInt, BitVec.reduceToNat, BitVec.reduceToInt, BitVec.reduceEq, BitVec.reduceLT, BitVec.reduceLE, BitVec.reduceAdd, BitVec.reduceSub, BitVec.reduceMul, BitVec.reduceUDiv, BitVec.reduceUMod, BitVec.reduceAnd, BitVec.reduceOr, BitVec.reduceXOr, BitVec.reduceNot, BitVec.reduceNeg, BitVec.reduceHShiftLeft, BitVec.reduceHShiftRight, Nat.reduceAdd, Nat.reduceMul, Nat.reduceSub, Nat.reduceBEq, Nat.reduceEqDiff, Nat.reduceLeDiff, Nat.reduceLT, Int.reduceLE, Int.reduceLT, Int.reduceAdd, Int.reduceSub, Int.reduceMul, Int.reduceNeg, Int.reduceToNat, Int.reduceEq, ↓reduceIte, reduceCtorEq, List.length_map, hl, tk, p2]))
    · simp at h
  · simp at h

theorem rg_get {x : BitVec 64} {W : List (BitVec 64)} (hl : W.length = 31) (i : Int) : rgW (0#64 :: W) i = if 0 < i ∧ i < 32 then (x :: W).getD i.toNat 0#64 else 0#64 := by
  unfold rgW
  by_cases h : 0 < i ∧ i < 32
  · rw [if_pos (by omega), if_pos h]
    obtain ⟨k, hk⟩ : ∃ k, i.toNat = k + 1 := ⟨i.toNat - 1, by omega⟩
    rw [hk, List.getD_cons_succ, List.getD_cons_succ]
  · rw [if_neg h]
    split
    · have : i = 0 := by omega
      subst this; rfl
    · rfl
theorem us_get {W : List (BitVec 64)} {k : Nat} (h : k < W.length) : (W.map Sc.u).getD k .any = .u (W.getD k 0#64) := by
  rw [List.getD_eq_getElem?_getD, List.getElem?_map, List.getD_eq_getElem?_getD, List.getElem?_eq_getElem h]; rfl
/-- what an effect may be, by its class -/
theorem do_1 {op rd im : Int} {pc a b : BitVec 64} {pr : Int} (h : classI op = 1 ∨ classI op = 2 ∨ classI op = 9) : ∃ rd' v, doL op rd im pc a b pr = plainL rd' v (pc + 4#64) := by
  unfold doL
  rcases h with h | h | h <;> simp only [h] <;> exact ⟨_, _, rfl⟩
theorem do_3 {op rd im : Int} {pc a b : BitVec 64} {pr : Int} (h : classI op = 3 ∨ classI op = 4) : (∃ rd' v nx, doL op rd im pc a b pr = plainL rd' v nx) ∨ ∃ cd tv, doL op rd im pc a b pr = trapL cd tv := by
  have e : doL op rd im pc a b pr = flowL op rd im pc a b := by
    unfold doL
    rcases h with h | h <;> simp [h]
  rw [e]
  unfold flowL jumpL
  repeat' split
  all_goals first | exact .inl ⟨_, _, _, rfl⟩ | exact .inr ⟨_, _, rfl⟩
theorem do_5 {op rd im : Int} {pc a b : BitVec 64} {pr : Int} (h : classI op = 5 ∨ classI op = 6) : ∃ rd' ac ak da, doL op rd im pc a b pr = effL 3 rd' 0#64 (pc + 4#64) 0 0#64 ac ak (a + BitVec.ofInt 64 im) (sizeI op) da := by
  unfold doL
  rcases h with h | h <;> simp only [h] <;> exact ⟨_, _, _, _, rfl⟩
theorem do_7 {op rd im : Int} {pc a b : BitVec 64} {pr : Int} (h : classI op = 7) : (∃ rd' ac ak da, doL op rd im pc a b pr = effL 3 rd' 0#64 (pc + 4#64) 0 0#64 ac ak a (sizeI op) da) ∨ ∃ cd tv, doL op rd im pc a b pr = trapL cd tv := by
  have e : doL op rd im pc a b pr = atomL op rd pc a b := by unfold doL; simp [h]
  rw [e]
  unfold atomL
  repeat' split
  all_goals first | exact .inl ⟨_, _, _, _, rfl⟩ | exact .inr ⟨_, _, rfl⟩
theorem do_s {op rd im : Int} {pc a b : BitVec 64} {pr : Int} (h : classI op = 0 ∨ classI op = 8 ∨ classI op = 10) (h1 : op ≠ 52) (h2 : op ≠ 53) : doL op rd im pc a b pr = effL 0 0 0#64 0#64 0 0#64 0 0 0#64 0 0#64 := by
  unfold doL
  rcases h with h | h | h <;> simp [h, h1, h2]
theorem do_c {op rd im : Int} {pc a b : BitVec 64} {pr : Int} (h : op = 52 ∨ op = 53) : ∃ cd tv, doL op rd im pc a b pr = trapL cd tv := by
  unfold doL
  rcases h with rfl | rfl
  · exact ⟨callI pr, 0#64, by simp [classI, wiB]⟩
  · exact ⟨3, pc, by simp [classI, wiB]⟩
theorem class_r (op : Int) : 0 ≤ classI op ∧ classI op ≤ 10 := by
  unfold classI
  repeat' split
  all_goals omega
theorem class_52 {op : Int} (h : op = 52 ∨ op = 53) : classI op = 10 := by rcases h with rfl | rfl <;> decide
set_option maxHeartbeats 8000000 in
def s_xk1 (args : List AV) : Option AV :=
  match args with
  | [.g [.i op, .i rd, .i r1, .i r2, .i im, .i cs, .b aq, .b rl], .c (.u pc), .g ws, .c (.i pr)] => if isU32 ws ∧ classI op = 1 then some (.c (.b true)) else none
  | _ => none
theorem s_xk1_eq {op rd r1 r2 im cs aq rl pc ws pr} : s_xk1 [.g [.i op, .i rd, .i r1, .i r2, .i im, .i cs, .b aq, .b rl], .c (.u pc), .g ws, .c (.i pr)] = if isU32 ws ∧ classI op = 1 then some (.c (.b true)) else none := rfl
set_option maxRecDepth 100000 in
set_option maxHeartbeats 2000000 in
theorem ok_xk1 : PuOk Try.prog 4 s_xk1 := by
  refine pu_ok (tab := [(8, .pu s_rof), (9, .fq s_edo), (10, .pu s_rclass), (11, .pu s_rksize), (7, .pu s_xlive)]) hmix (TabOk.cons (e := .pu s_rof) ok_rof (TabOk.cons (e := .fq s_edo) ok_edo (TabOk.cons (e := .pu s_rclass) ok_rclass (TabOk.cons (e := .pu s_rksize) ok_rksize (TabOk.cons (e := .pu s_xlive) ok_xlive TabOk.nil))))) Try.func4 rfl Try.results4 Try.ntmps4 (by kernel_rfl) (by kernel_rfl) ?_
  intro args v h
  unfold s_xk1 at h
  split at h
  · rename_i op rd r1 r2 im cs aq rl pc ws pr
    split at h
    · rename_i hc
      simp only [Option.some.injEq] at h; subst h
      obtain ⟨hw, hc7⟩ := hc
      obtain ⟨x, W, rfl, hl⟩ := isU32_inv hw
      obtain ⟨p1, p2, p3⟩ := us_pf W
      have px : (Sc.u x).pf = true := rfl
      refine ⟨by simp only [List.length_cons, List.length_nil]; decide, by first | rfl | simp only [List.all_cons, List.all_nil, AV.pf, Sc.pf, Bool.and_true, *], by first | rfl | simp only [List.all_cons, List.all_nil, AV.pf, Sc.pf, Bool.and_true, *], ?_⟩
      have tk : (W.map Sc.u).take 31 = W.map Sc.u := List.take_of_length_le (by simp [hl])
      have hz : ∀ (H : AH) (k : Nat), hg H k = .own (.u 0#64 :: W.map Sc.u) → rgOf H (.p k 0 0) = some (rgW (0#64 :: W)) := fun H k h => rg_of (W := 0#64 :: W) h (by simp [hl])
      have hz2 := hz [.own [.i op, .i rd, .i r1, .i r2, .i im, .i cs, .b aq, .b rl], .own (.u x :: W.map Sc.u), .own (.u 0#64 :: W.map Sc.u)] 2 rfl
      obtain ⟨rd1, v1, e⟩ := do_1 (rd := rd) (im := im) (pc := pc) (a := rgW (0#64 :: W) r1) (b := rgW (0#64 :: W) r2) (pr := pr) (.inl hc7)
      unfold plainL effL at e
      (try simp (config := { maxSteps := 10000000 }) only [go_sem, List.reduceReplicate, BitVec.reduceOfInt, BitVec.reduceToNat, BitVec.reduceToInt, BitVec.reduceEq, BitVec.reduceLT, BitVec.reduceLE, BitVec.reduceAdd, BitVec.reduceSub, BitVec.reduceMul, BitVec.reduceUDiv, BitVec.reduceUMod, BitVec.reduceAnd, BitVec.reduceOr, BitVec.reduceXOr, BitVec.reduceNot, BitVec.reduceNeg, BitVec.reduceHShiftLeft, BitVec.reduceHShiftRight, Nat.reduceAdd, Nat.reduceMul, Nat.reduceSub, Nat.reduceBEq, Nat.reduceEqDiff, Nat.reduceLeDiff, Nat.reduceLT, Int.reduceLE, Int.reduceLT, Int.reduceAdd, Int.reduceSub, Int.reduceMul, Int.reduceNeg, Int.reduceToNat, Int.reduceEq, ↓reduceIte, reduceCtorEq, s_rof_eq, s_edo_eq, s_rclass_eq, s_rksize_eq, s_xlive_eq, List.length_map, hl, tk, p2, hw, hz2, hc7, e]; repeat (simp (disch := omega) only [w64_d, ipos, ineg, dpos, dneg]; try simp (config := { maxSteps := 10000000 }) only [go_sem, List.reduceReplicate, BitVec.reduceOfInt, BitVec.reduceToNat, BitVec.reduceToInt, BitVec.reduceEq, BitVec.reduceLT, BitVec.reduceLE, BitVec.reduceAdd, BitVec.reduceSub, BitVec.reduceMul, BitVec.reduceUDiv, BitVec.reduceUMod, BitVec.reduceAnd, BitVec.reduceOr, BitVec.reduceXOr, BitVec.reduceNot, BitVec.reduceNeg, BitVec.reduceHShiftLeft, BitVec.reduceHShiftRight, Nat.reduceAdd, Nat.reduceMul, Nat.reduceSub, Nat.reduceBEq, Nat.reduceEqDiff, Nat.reduceLeDiff, Nat.reduceLT, Int.reduceLE, Int.reduceLT, Int.reduceAdd, Int.reduceSub, Int.reduceMul, Int.reduceNeg, Int.reduceToNat, Int.reduceEq, ↓reduceIte, reduceCtorEq, s_rof_eq, s_edo_eq, s_rclass_eq, s_rksize_eq, s_xlive_eq, List.length_map, hl, tk, p2, hw, hz2, hc7, e]))
    · simp at h
  · simp at h
set_option maxHeartbeats 8000000 in
def s_xk2 (args : List AV) : Option AV :=
  match args with
  | [.g [.i op, .i rd, .i r1, .i r2, .i im, .i cs, .b aq, .b rl], .c (.u pc), .g ws, .c (.i pr)] => if isU32 ws ∧ classI op = 2 then some (.c (.b true)) else none
  | _ => none
theorem s_xk2_eq {op rd r1 r2 im cs aq rl pc ws pr} : s_xk2 [.g [.i op, .i rd, .i r1, .i r2, .i im, .i cs, .b aq, .b rl], .c (.u pc), .g ws, .c (.i pr)] = if isU32 ws ∧ classI op = 2 then some (.c (.b true)) else none := rfl
set_option maxRecDepth 100000 in
set_option maxHeartbeats 2000000 in
theorem ok_xk2 : PuOk Try.prog 4 s_xk2 := by
  refine pu_ok (tab := [(8, .pu s_rof), (9, .fq s_edo), (10, .pu s_rclass), (11, .pu s_rksize), (7, .pu s_xlive)]) hmix (TabOk.cons (e := .pu s_rof) ok_rof (TabOk.cons (e := .fq s_edo) ok_edo (TabOk.cons (e := .pu s_rclass) ok_rclass (TabOk.cons (e := .pu s_rksize) ok_rksize (TabOk.cons (e := .pu s_xlive) ok_xlive TabOk.nil))))) Try.func4 rfl Try.results4 Try.ntmps4 (by kernel_rfl) (by kernel_rfl) ?_
  intro args v h
  unfold s_xk2 at h
  split at h
  · rename_i op rd r1 r2 im cs aq rl pc ws pr
    split at h
    · rename_i hc
      simp only [Option.some.injEq] at h; subst h
      obtain ⟨hw, hc7⟩ := hc
      obtain ⟨x, W, rfl, hl⟩ := isU32_inv hw
      obtain ⟨p1, p2, p3⟩ := us_pf W
      have px : (Sc.u x).pf = true := rfl
      refine ⟨by simp only [List.length_cons, List.length_nil]; decide, by first | rfl | simp only [List.all_cons, List.all_nil, AV.pf, Sc.pf, Bool.and_true, *], by first | rfl | simp only [List.all_cons, List.all_nil, AV.pf, Sc.pf, Bool.and_true, *], ?_⟩
      have tk : (W.map Sc.u).take 31 = W.map Sc.u := List.take_of_length_le (by simp [hl])
      have hz : ∀ (H : AH) (k : Nat), hg H k = .own (.u 0#64 :: W.map Sc.u) → rgOf H (.p k 0 0) = some (rgW (0#64 :: W)) := fun H k h => rg_of (W := 0#64 :: W) h (by simp [hl])
      have hz2 := hz [.own [.i op, .i rd, .i r1, .i r2, .i im, .i cs, .b aq, .b rl], .own (.u x :: W.map Sc.u), .own (.u 0#64 :: W.map Sc.u)] 2 rfl
      obtain ⟨rd1, v1, e⟩ := do_1 (rd := rd) (im := im) (pc := pc) (a := rgW (0#64 :: W) r1) (b := rgW (0#64 :: W) r2) (pr := pr) (.inr (.inl hc7))
      unfold plainL effL at e
      (try simp (config := { maxSteps := 10000000 }) only [go_sem, List.reduceReplicate, BitVec.reduceOfInt, BitVec.reduceToNat, BitVec.reduceToInt, BitVec.reduceEq, BitVec.reduceLT, BitVec.reduceLE, BitVec.reduceAdd, BitVec.reduceSub, BitVec.reduceMul, BitVec.reduceUDiv, BitVec.reduceUMod, BitVec.reduceAnd, BitVec.reduceOr, BitVec.reduceXOr, BitVec.reduceNot, BitVec.reduceNeg, BitVec.reduceHShiftLeft, BitVec.reduceHShiftRight, Nat.reduceAdd, Nat.reduceMul, Nat.reduceSub, Nat.reduceBEq, Nat.reduceEqDiff, Nat.reduceLeDiff, Nat.reduceLT, Int.reduceLE, Int.reduceLT, Int.reduceAdd, Int.reduceSub, Int.reduceMul, Int.reduceNeg, Int.reduceToNat, Int.reduceEq, ↓reduceIte, reduceCtorEq, s_rof_eq, s_edo_eq, s_rclass_eq, s_rksize_eq, s_xlive_eq, List.length_map, hl, tk, p2, hw, hz2, hc7, e]; repeat (simp (disch := omega) only [w64_d, ipos, ineg, dpos, dneg]; try simp (config := { maxSteps := 10000000 }) only [go_sem, List.reduceReplicate, BitVec.reduceOfInt, BitVec.reduceToNat, BitVec.reduceToInt, BitVec.reduceEq, BitVec.reduceLT, BitVec.reduceLE, BitVec.reduceAdd, BitVec.reduceSub, BitVec.reduceMul, BitVec.reduceUDiv, BitVec.reduceUMod, BitVec.reduceAnd, BitVec.reduceOr, BitVec.reduceXOr, BitVec.reduceNot, BitVec.reduceNeg, BitVec.reduceHShiftLeft, BitVec.reduceHShiftRight, Nat.reduceAdd, Nat.reduceMul, Nat.reduceSub, Nat.reduceBEq, Nat.reduceEqDiff, Nat.reduceLeDiff, Nat.reduceLT, Int.reduceLE, Int.reduceLT, Int.reduceAdd, Int.reduceSub, Int.reduceMul, Int.reduceNeg, Int.reduceToNat, Int.reduceEq, ↓reduceIte, reduceCtorEq, s_rof_eq, s_edo_eq, s_rclass_eq, s_rksize_eq, s_xlive_eq, List.length_map, hl, tk, p2, hw, hz2, hc7, e]))
    · simp at h
  · simp at h
set_option maxHeartbeats 8000000 in
def s_xk9 (args : List AV) : Option AV :=
  match args with
  | [.g [.i op, .i rd, .i r1, .i r2, .i im, .i cs, .b aq, .b rl], .c (.u pc), .g ws, .c (.i pr)] => if isU32 ws ∧ classI op = 9 then some (.c (.b true)) else none
  | _ => none
theorem s_xk9_eq {op rd r1 r2 im cs aq rl pc ws pr} : s_xk9 [.g [.i op, .i rd, .i r1, .i r2, .i im, .i cs, .b aq, .b rl], .c (.u pc), .g ws, .c (.i pr)] = if isU32 ws ∧ classI op = 9 then some (.c (.b true)) else none := rfl
set_option maxRecDepth 100000 in
set_option maxHeartbeats 2000000 in
theorem ok_xk9 : PuOk Try.prog 4 s_xk9 := by
  refine pu_ok (tab := [(8, .pu s_rof), (9, .fq s_edo), (10, .pu s_rclass), (11, .pu s_rksize), (7, .pu s_xlive)]) hmix (TabOk.cons (e := .pu s_rof) ok_rof (TabOk.cons (e := .fq s_edo) ok_edo (TabOk.cons (e := .pu s_rclass) ok_rclass (TabOk.cons (e := .pu s_rksize) ok_rksize (TabOk.cons (e := .pu s_xlive) ok_xlive TabOk.nil))))) Try.func4 rfl Try.results4 Try.ntmps4 (by kernel_rfl) (by kernel_rfl) ?_
  intro args v h
  unfold s_xk9 at h
  split at h
  · rename_i op rd r1 r2 im cs aq rl pc ws pr
    split at h
    · rename_i hc
      simp only [Option.some.injEq] at h; subst h
      obtain ⟨hw, hc7⟩ := hc
      obtain ⟨x, W, rfl, hl⟩ := isU32_inv hw
      obtain ⟨p1, p2, p3⟩ := us_pf W
      have px : (Sc.u x).pf = true := rfl
      refine ⟨by simp only [List.length_cons, List.length_nil]; decide, by first | rfl | simp only [List.all_cons, List.all_nil, AV.pf, Sc.pf, Bool.and_true, *], by first | rfl | simp only [List.all_cons, List.all_nil, AV.pf, Sc.pf, Bool.and_true, *], ?_⟩
      have tk : (W.map Sc.u).take 31 = W.map Sc.u := List.take_of_length_le (by simp [hl])
      have hz : ∀ (H : AH) (k : Nat), hg H k = .own (.u 0#64 :: W.map Sc.u) → rgOf H (.p k 0 0) = some (rgW (0#64 :: W)) := fun H k h => rg_of (W := 0#64 :: W) h (by simp [hl])
      have hz2 := hz [.own [.i op, .i rd, .i r1, .i r2, .i im, .i cs, .b aq, .b rl], .own (.u x :: W.map Sc.u), .own (.u 0#64 :: W.map Sc.u)] 2 rfl
      obtain ⟨rd1, v1, e⟩ := do_1 (rd := rd) (im := im) (pc := pc) (a := rgW (0#64 :: W) r1) (b := rgW (0#64 :: W) r2) (pr := pr) (.inr (.inr hc7))
      unfold plainL effL at e
      (try simp (config := { maxSteps := 10000000 }) only [go_sem, List.reduceReplicate, BitVec.reduceOfInt, BitVec.reduceToNat, BitVec.reduceToInt, BitVec.reduceEq, BitVec.reduceLT, BitVec.reduceLE, BitVec.reduceAdd, BitVec.reduceSub, BitVec.reduceMul, BitVec.reduceUDiv, BitVec.reduceUMod, BitVec.reduceAnd, BitVec.reduceOr, BitVec.reduceXOr, BitVec.reduceNot, BitVec.reduceNeg, BitVec.reduceHShiftLeft, BitVec.reduceHShiftRight, Nat.reduceAdd, Nat.reduceMul, Nat.reduceSub, Nat.reduceBEq, Nat.reduceEqDiff, Nat.reduceLeDiff, Nat.reduceLT, Int.reduceLE, Int.reduceLT, Int.reduceAdd, Int.reduceSub, Int.reduceMul, Int.reduceNeg, Int.reduceToNat, Int.reduceEq, ↓reduceIte, reduceCtorEq, s_rof_eq, s_edo_eq, s_rclass_eq, s_rksize_eq, s_xlive_eq, List.length_map, hl, tk, p2, hw, hz2, hc7, e]; repeat (simp (disch := omega) only [w64_d, ipos, ineg, dpos, dneg]; try simp (config := { maxSteps := 10000000 }) only [go_sem, List.reduceReplicate, BitVec.reduceOfInt, BitVec.reduceToNat, BitVec.reduceToInt, BitVec.reduceEq, BitVec.reduceLT, BitVec.reduceLE, BitVec.reduceAdd, BitVec.reduceSub, BitVec.reduceMul, BitVec.reduceUDiv, BitVec.reduceUMod, BitVec.reduceAnd, BitVec.reduceOr, BitVec.reduceXOr, BitVec.reduceNot, BitVec.reduceNeg, BitVec.reduceHShiftLeft, BitVec.reduceHShiftRight, Nat.reduceAdd, Nat.reduceMul, Nat.reduceSub, Nat.reduceBEq, Nat.reduceEqDiff, Nat.reduceLeDiff, Nat.reduceLT, Int.reduceLE, Int.reduceLT, Int.reduceAdd, Int.reduceSub, Int.reduceMul, Int.reduceNeg, Int.reduceToNat, Int.reduceEq, ↓reduceIte, reduceCtorEq, s_rof_eq, s_edo_eq, s_rclass_eq, s_rksize_eq, s_xlive_eq, List.length_map, hl, tk, p2, hw, hz2, hc7, e]))
    · simp at h
  · simp at h
set_option maxHeartbeats 8000000 in
def s_xk3 (args : List AV) : Option AV :=
  match args with
  | [.g [.i op, .i rd, .i r1, .i r2, .i im, .i cs, .b aq, .b rl], .c (.u pc), .g ws, .c (.i pr)] => if isU32 ws ∧ classI op = 3 then some (.c (.b true)) else none
  | _ => none
theorem s_xk3_eq {op rd r1 r2 im cs aq rl pc ws pr} : s_xk3 [.g [.i op, .i rd, .i r1, .i r2, .i im, .i cs, .b aq, .b rl], .c (.u pc), .g ws, .c (.i pr)] = if isU32 ws ∧ classI op = 3 then some (.c (.b true)) else none := rfl
set_option maxRecDepth 100000 in
set_option maxHeartbeats 2000000 in
theorem ok_xk3 : PuOk Try.prog 4 s_xk3 := by
  refine pu_ok (tab := [(8, .pu s_rof), (9, .fq s_edo), (10, .pu s_rclass), (11, .pu s_rksize), (7, .pu s_xlive)]) hmix (TabOk.cons (e := .pu s_rof) ok_rof (TabOk.cons (e := .fq s_edo) ok_edo (TabOk.cons (e := .pu s_rclass) ok_rclass (TabOk.cons (e := .pu s_rksize) ok_rksize (TabOk.cons (e := .pu s_xlive) ok_xlive TabOk.nil))))) Try.func4 rfl Try.results4 Try.ntmps4 (by kernel_rfl) (by kernel_rfl) ?_
  intro args v h
  unfold s_xk3 at h
  split at h
  · rename_i op rd r1 r2 im cs aq rl pc ws pr
    split at h
    · rename_i hc
      simp only [Option.some.injEq] at h; subst h
      obtain ⟨hw, hc7⟩ := hc
      obtain ⟨x, W, rfl, hl⟩ := isU32_inv hw
      obtain ⟨p1, p2, p3⟩ := us_pf W
      have px : (Sc.u x).pf = true := rfl
      refine ⟨by simp only [List.length_cons, List.length_nil]; decide, by first | rfl | simp only [List.all_cons, List.all_nil, AV.pf, Sc.pf, Bool.and_true, *], by first | rfl | simp only [List.all_cons, List.all_nil, AV.pf, Sc.pf, Bool.and_true, *], ?_⟩
      have tk : (W.map Sc.u).take 31 = W.map Sc.u := List.take_of_length_le (by simp [hl])
      have hz : ∀ (H : AH) (k : Nat), hg H k = .own (.u 0#64 :: W.map Sc.u) → rgOf H (.p k 0 0) = some (rgW (0#64 :: W)) := fun H k h => rg_of (W := 0#64 :: W) h (by simp [hl])
      have hz2 := hz [.own [.i op, .i rd, .i r1, .i r2, .i im, .i cs, .b aq, .b rl], .own (.u x :: W.map Sc.u), .own (.u 0#64 :: W.map Sc.u)] 2 rfl
      rcases do_3 (rd := rd) (im := im) (pc := pc) (a := rgW (0#64 :: W) r1) (b := rgW (0#64 :: W) r2) (pr := pr) (.inl hc7) with ⟨rd1, v1, nx, e⟩ | ⟨cd, tv, e⟩
      · unfold plainL effL at e
        (try simp (config := { maxSteps := 10000000 }) only [go_sem, List.reduceReplicate, BitVec.reduceOfInt, BitVec.reduceToNat, BitVec.reduceToInt, BitVec.reduceEq, BitVec.reduceLT, BitVec.reduceLE, BitVec.reduceAdd, BitVec.reduceSub, BitVec.reduceMul, BitVec.reduceUDiv, BitVec.reduceUMod, BitVec.reduceAnd, BitVec.reduceOr, BitVec.reduceXOr, BitVec.reduceNot, BitVec.reduceNeg, BitVec.reduceHShiftLeft, BitVec.reduceHShiftRight, Nat.reduceAdd, Nat.reduceMul, Nat.reduceSub, Nat.reduceBEq, Nat.reduceEqDiff, Nat.reduceLeDiff, Nat.reduceLT, Int.reduceLE, Int.reduceLT, Int.reduceAdd, Int.reduceSub, Int.reduceMul, Int.reduceNeg, Int.reduceToNat, Int.reduceEq, ↓reduceIte, reduceCtorEq, s_rof_eq, s_edo_eq, s_rclass_eq, s_rksize_eq, s_xlive_eq, List.length_map, hl, tk, p2, hw, hz2, hc7, e]; repeat (simp (disch := omega) only [w64_d, ipos, ineg, dpos, dneg]; try simp (config := { maxSteps := 10000000 }) only [go_sem, List.reduceReplicate, BitVec.reduceOfInt, BitVec.reduceToNat, BitVec.reduceToInt, BitVec.reduceEq, BitVec.reduceLT, BitVec.reduceLE, BitVec.reduceAdd, BitVec.reduceSub, BitVec.reduceMul, BitVec.reduceUDiv, BitVec.reduceUMod, BitVec.reduceAnd, BitVec.reduceOr, BitVec.reduceXOr, BitVec.reduceNot, BitVec.reduceNeg, BitVec.reduceHShiftLeft, BitVec.reduceHShiftRight, Nat.reduceAdd, Nat.reduceMul, Nat.reduceSub, Nat.reduceBEq, Nat.reduceEqDiff, Nat.reduceLeDiff, Nat.reduceLT, Int.reduceLE, Int.reduceLT, Int.reduceAdd, Int.reduceSub, Int.reduceMul, Int.reduceNeg, Int.reduceToNat, Int.reduceEq, ↓reduceIte, reduceCtorEq, s_rof_eq, s_edo_eq, s_rclass_eq, s_rksize_eq, s_xlive_eq, List.length_map, hl, tk, p2, hw, hz2, hc7, e]))
      · unfold trapL effL at e
        (try simp (config := { maxSteps := 10000000 }) only [go_sem, List.reduceReplicate, BitVec.reduceOfInt, BitVec.reduceToNat, BitVec.reduceToInt, BitVec.reduceEq, BitVec.reduceLT, BitVec.reduceLE, BitVec.reduceAdd, BitVec.reduceSub, BitVec.reduceMul, BitVec.reduceUDiv, BitVec.reduceUMod, BitVec.reduceAnd, BitVec.reduceOr, BitVec.reduceXOr, BitVec.reduceNot, BitVec.reduceNeg, BitVec.reduceHShiftLeft, BitVec.reduceHShiftRight, Nat.reduceAdd, Nat.reduceMul, Nat.reduceSub, Nat.reduceBEq, Nat.reduceEqDiff, Nat.reduceLeDiff, Nat.reduceLT, Int.reduceLE, Int.reduceLT, Int.reduceAdd, Int.reduceSub, Int.reduceMul, Int.reduceNeg, Int.reduceToNat, Int.reduceEq, ↓reduceIte, reduceCtorEq, s_rof_eq, s_edo_eq, s_rclass_eq, s_rksize_eq, s_xlive_eq, List.length_map, hl, tk, p2, hw, hz2, hc7, e]; repeat (simp (disch := omega) only [w64_d, ipos, ineg, dpos, dneg]; try simp (config := { maxSteps := 10000000 }) only [go_sem, List.reduceReplicate, BitVec.reduceOfInt, BitVec.reduceToNat, BitVec.reduceToInt, BitVec.reduceEq, BitVec.reduceLT, BitVec.reduceLE, BitVec.reduceAdd, BitVec.reduceSub, BitVec.reduceMul, BitVec.reduceUDiv, BitVec.reduceUMod, BitVec.reduceAnd, BitVec.reduceOr, BitVec.reduceXOr, BitVec.reduceNot, BitVec.reduceNeg, BitVec.reduceHShiftLeft, BitVec.reduceHShiftRight, Nat.reduceAdd, Nat.reduceMul, Nat.reduceSub, Nat.reduceBEq, Nat.reduceEqDiff, Nat.reduceLeDiff, Nat.reduceLT, Int.reduceLE, Int.reduceLT, Int.reduceAdd, Int.reduceSub, Int.reduceMul, Int.reduceNeg, Int.reduceToNat, Int.reduceEq, ↓reduceIte, reduceCtorEq, s_rof_eq, s_edo_eq, s_rclass_eq, s_rksize_eq, s_xlive_eq, List.length_map, hl, tk, p2, hw, hz2, hc7, e]))
    · simp at h
  · simp at h
set_option maxHeartbeats 8000000 in
def s_xk4 (args : List AV) : Option AV :=
  match args with
  | [.g [.i op, .i rd, .i r1, .i r2, .i im, .i cs, .b aq, .b rl], .c (.u pc), .g ws, .c (.i pr)] => if isU32 ws ∧ classI op = 4 then some (.c (.b true)) else none
  | _ => none
theorem s_xk4_eq {op rd r1 r2 im cs aq rl pc ws pr} : s_xk4 [.g [.i op, .i rd, .i r1, .i r2, .i im, .i cs, .b aq, .b rl], .c (.u pc), .g ws, .c (.i pr)] = if isU32 ws ∧ classI op = 4 then some (.c (.b true)) else none := rfl
set_option maxRecDepth 100000 in
set_option maxHeartbeats 2000000 in
theorem ok_xk4 : PuOk Try.prog 4 s_xk4 := by
  refine pu_ok (tab := [(8, .pu s_rof), (9, .fq s_edo), (10, .pu s_rclass), (11, .pu s_rksize), (7, .pu s_xlive)]) hmix (TabOk.cons (e := .pu s_rof) ok_rof (TabOk.cons (e := .fq s_edo) ok_edo (TabOk.cons (e := .pu s_rclass) ok_rclass (TabOk.cons (e := .pu s_rksize) ok_rksize (TabOk.cons (e := .pu s_xlive) ok_xlive TabOk.nil))))) Try.func4 rfl Try.results4 Try.ntmps4 (by kernel_rfl) (by kernel_rfl) ?_
  intro args v h
  unfold s_xk4 at h
  split at h
  · rename_i op rd r1 r2 im cs aq rl pc ws pr
    split at h
    · rename_i hc
      simp only [Option.some.injEq] at h; subst h
      obtain ⟨hw, hc7⟩ := hc
      obtain ⟨x, W, rfl, hl⟩ := isU32_inv hw
      obtain ⟨p1, p2, p3⟩ := us_pf W
      have px : (Sc.u x).pf = true := rfl
      refine ⟨by simp only [List.length_cons, List.length_nil]; decide, by first | rfl | simp only [List.all_cons, List.all_nil, AV.pf, Sc.pf, Bool.and_true, *], by first | rfl | simp only [List.all_cons, List.all_nil, AV.pf, Sc.pf, Bool.and_true, *], ?_⟩
      have tk : (W.map Sc.u).take 31 = W.map Sc.u := List.take_of_length_le (by simp [hl])
      have hz : ∀ (H : AH) (k : Nat), hg H k = .own (.u 0#64 :: W.map Sc.u) → rgOf H (.p k 0 0) = some (rgW (0#64 :: W)) := fun H k h => rg_of (W := 0#64 :: W) h (by simp [hl])
      have hz2 := hz [.own [.i op, .i rd, .i r1, .i r2, .i im, .i cs, .b aq, .b rl], .own (.u x :: W.map Sc.u), .own (.u 0#64 :: W.map Sc.u)] 2 rfl
      rcases do_3 (rd := rd) (im := im) (pc := pc) (a := rgW (0#64 :: W) r1) (b := rgW (0#64 :: W) r2) (pr := pr) (.inr hc7) with ⟨rd1, v1, nx, e⟩ | ⟨cd, tv, e⟩
      · unfold plainL effL at e
        (try simp (config := { maxSteps := 10000000 }) only [go_sem, List.reduceReplicate, BitVec.reduceOfInt, BitVec.reduceToNat, BitVec.reduceToInt, BitVec.reduceEq, BitVec.reduceLT, BitVec.reduceLE, BitVec.reduceAdd, BitVec.reduceSub, BitVec.reduceMul, BitVec.reduceUDiv, BitVec.reduceUMod, BitVec.reduceAnd, BitVec.reduceOr, BitVec.reduceXOr, BitVec.reduceNot, BitVec.reduceNeg, BitVec.reduceHShiftLeft, BitVec.reduceHShiftRight, Nat.reduceAdd, Nat.reduceMul, Nat.reduceSub, Nat.reduceBEq, Nat.reduceEqDiff, Nat.reduceLeDiff, Nat.reduceLT, Int.reduceLE, Int.reduceLT, Int.reduceAdd, Int.reduceSub, Int.reduceMul, Int.reduceNeg, Int.reduceToNat, Int.reduceEq, ↓reduceIte, reduceCtorEq, s_rof_eq, s_edo_eq, s_rclass_eq, s_rksize_eq, s_xlive_eq, List.length_map, hl, tk, p2, hw, hz2, hc7, e]; repeat (simp (disch := omega) only [w64_d, ipos, ineg, dpos, dneg]; try simp (config := { maxSteps := 10000000 }) only [go_sem, List.reduceReplicate, BitVec.reduceOfInt, BitVec.reduceToNat, BitVec.reduceToInt, BitVec.reduceEq, BitVec.reduceLT, BitVec.reduceLE, BitVec.reduceAdd, BitVec.reduceSub, BitVec.reduceMul, BitVec.reduceUDiv, BitVec.reduceUMod, BitVec.reduceAnd, BitVec.reduceOr, BitVec.reduceXOr, BitVec.reduceNot, BitVec.reduceNeg, BitVec.reduceHShiftLeft, BitVec.reduceHShiftRight, Nat.reduceAdd, Nat.reduceMul, Nat.reduceSub, Nat.reduceBEq, Nat.reduceEqDiff, Nat.reduceLeDiff, Nat.reduceLT, Int.reduceLE, Int.reduceLT, Int.reduceAdd, Int.reduceSub, Int.reduceMul, Int.reduceNeg, Int.reduceToNat, Int.reduceEq, ↓reduceIte, reduceCtorEq, s_rof_eq, s_edo_eq, s_rclass_eq, s_rksize_eq, s_xlive_eq, List.length_map, hl, tk, p2, hw, hz2, hc7, e]))
      · unfold trapL effL at e
        (try simp (config := { maxSteps := 10000000 }) only [go_sem, List.reduceReplicate, BitVec.reduceOfInt, BitVec.reduceToNat, BitVec.reduceToInt, BitVec.reduceEq, BitVec.reduceLT, BitVec.reduceLE, BitVec.reduceAdd, BitVec.reduceSub, BitVec.reduceMul, BitVec.reduceUDiv, BitVec.reduceUMod, BitVec.reduceAnd, BitVec.reduceOr, BitVec.reduceXOr, BitVec.reduceNot, BitVec.reduceNeg, BitVec.reduceHShiftLeft, BitVec.reduceHShiftRight, Nat.reduceAdd, Nat.reduceMul, Nat.reduceSub, Nat.reduceBEq, Nat.reduceEqDiff, Nat.reduceLeDiff, Nat.reduceLT, Int.reduceLE, Int.reduceLT, Int.reduceAdd, Int.reduceSub, Int.reduceMul, Int.reduceNeg, Int.reduceToNat, Int.reduceEq, ↓reduceIte, reduceCtorEq, s_rof_eq, s_edo_eq, s_rclass_eq, s_rksize_eq, s_xlive_eq, List.length_map, hl, tk, p2, hw, hz2, hc7, e]; repeat (simp (disch := omega) only [w64_d, ipos, ineg, dpos, dneg]; try simp (config := { maxSteps := 10000000 }) only [go_sem, List.reduceReplicate, BitVec.reduceOfInt, BitVec.reduceToNat, BitVec.reduceToInt, BitVec.reduceEq, BitVec.reduceLT, BitVec.reduceLE, BitVec.reduceAdd, BitVec.reduceSub, BitVec.reduceMul, BitVec.reduceUDiv, BitVec.reduceUMod, BitVec.reduceAnd, BitVec.reduceOr, BitVec.reduceXOr, BitVec.reduceNot, BitVec.reduceNeg, BitVec.reduceHShiftLeft, BitVec.reduceHShiftRight, Nat.reduceAdd, Nat.reduceMul, Nat.reduceSub, Nat.reduceBEq, Nat.reduceEqDiff, Nat.reduceLeDiff, Nat.reduceLT, Int.reduceLE, Int.reduceLT, Int.reduceAdd, Int.reduceSub, Int.reduceMul, Int.reduceNeg, Int.reduceToNat, Int.reduceEq, ↓reduceIte, reduceCtorEq, s_rof_eq, s_edo_eq, s_rclass_eq, s_rksize_eq, s_xlive_eq, List.length_map, hl, tk, p2, hw, hz2, hc7, e]))
    · simp at h
  · simp at h

end
end Go.Proofs.Ytjlbgjhnhhihoaa
