/- Layer 30: each instruction does what its class does: the law, joined (printed by gx4.py). -/
import Derived.Test.YtjlbgjhnhhihoaaEx4
namespace Go.Proofs.Ytjlbgjhnhhihoaa
open Go.Am
set_option linter.unusedSimpArgs false
set_option linter.unusedVariables false
noncomputable section

set_option maxHeartbeats 8000000 in
def s_xk5 (args : List AV) : Option AV :=
  match args with
  | [.g [.i op, .i rd, .i r1, .i r2, .i im, .i cs, .b aq, .b rl], .c (.u pc), .g ws, .c (.i pr)] => if isU32 ws ∧ classI op = 5 then some (.c (.b true)) else none
  | _ => none
theorem s_xk5_eq {op rd r1 r2 im cs aq rl pc ws pr} : s_xk5 [.g [.i op, .i rd, .i r1, .i r2, .i im, .i cs, .b aq, .b rl], .c (.u pc), .g ws, .c (.i pr)] = if isU32 ws ∧ classI op = 5 then some (.c (.b true)) else none := rfl
set_option maxRecDepth 100000 in
set_option maxHeartbeats 2000000 in
theorem ok_xk5 : PuOk Try.prog 4 s_xk5 := by
  refine pu_ok (tab := [(8, .pu s_rof), (9, .fq s_edo), (10, .pu s_rclass), (11, .pu s_rksize), (7, .pu s_xlive)]) hmix (TabOk.cons (e := .pu s_rof) ok_rof (TabOk.cons (e := .fq s_edo) ok_edo (TabOk.cons (e := .pu s_rclass) ok_rclass (TabOk.cons (e := .pu s_rksize) ok_rksize (TabOk.cons (e := .pu s_xlive) ok_xlive TabOk.nil))))) Try.func4 rfl Try.results4 Try.ntmps4 (by kernel_rfl) (by kernel_rfl) ?_
  intro args v h
  unfold s_xk5 at h
  split at h
  · rename_i op rd r1 r2 im cs aq rl pc ws pr
    split at h
    · rename_i hc
      simp only [Option.some.injEq] at h; subst h
      obtain ⟨hw, hc7⟩ := hc
      obtain ⟨x, W, rfl, hl⟩ := isU32_inv hw
      obtain ⟨p1, p2, p3⟩ := us_pf W
      have px : (Sc.u x).pf = true := rfl
      refine ⟨by simp only [List.length_cons, List.length_nil]; decide, by first | rfl | simp only [List.all_cons, List.all_nil, AV.pf, Sc.pf, Bool.and_true, *], by first | rfl | simp only [List.all_cons, List.all_nil, AV.pf, Sc.pf, Bool.and_true, *], ?_⟩
      have tk : (W.map Sc.u).take 31 = W.map Sc.u := List.take_of_length_le (by simp [hl])
      have hz : ∀ (H : AH) (k : Nat), hg H k = .own (.u 0#64 :: W.map Sc.u) → rgOf H (.p k 0 0) = some (rgW (0#64 :: W)) := fun H k h => rg_of (W := 0#64 :: W) h (by simp [hl])
      have hz2 := hz [.own [.i op, .i rd, .i r1, .i r2, .i im, .i cs, .b aq, .b rl], .own (.u x :: W.map Sc.u), .own (.u 0#64 :: W.map Sc.u)] 2 rfl
      obtain ⟨rd1, ac, ak, da, e⟩ := do_5 (rd := rd) (im := im) (pc := pc) (a := rgW (0#64 :: W) r1) (b := rgW (0#64 :: W) r2) (pr := pr) (.inl hc7)
      unfold effL at e
      by_cases h0 : 0 < r1
      · by_cases h1 : r1 < 32
        · have er := rg_get (x := x) (W := W) hl r1
          rw [if_pos ⟨h0, h1⟩] at er
          have g1 : (Sc.u x :: W.map Sc.u).getD r1.toNat .any = .u ((x :: W).getD r1.toNat 0#64) := us_get (W := x :: W) (by simp [hl]; omega)
          have e5 : r1.toNat + 1 ≤ 32 := by omega
          have e6 : 0 ≤ r1 := by omega
          rw [er] at e
          (try simp (config := { maxSteps := 10000000 }) only [go_sem, List.reduceReplicate, BitVec.reduceOfInt, BitVec.reduceToNat, BitVec.reduceToInt, BitVec.reduceEq, BitVec.reduceLT, BitVec.reduceLE, BitVec.reduceAdd, BitVec.reduceSub, BitVec.reduceMul, BitVec.reduceUDiv, BitVec.reduceUMod, BitVec.reduceAnd, BitVec.reduceOr, BitVec.reduceXOr, BitVec.reduceNot, BitVec.reduceNeg, BitVec.reduceHShiftLeft, BitVec.reduceHShiftRight, Nat.reduceAdd, Nat.reduceMul, Nat.reduceSub, Nat.reduceBEq, Nat.reduceEqDiff, Nat.reduceLeDiff, Nat.reduceLT, Int.reduceLE, Int.reduceLT, Int.reduceAdd, Int.reduceSub, Int.reduceMul, Int.reduceNeg, Int.reduceToNat, Int.reduceEq, ↓reduceIte, reduceCtorEq, s_rof_eq, s_edo_eq, s_rclass_eq, s_rksize_eq, s_xlive_eq, List.length_map, hl, tk, p2, hw, hz2, hc7, e, er, h0, h1, g1, e5, e6]; repeat (simp (disch := omega) only [w64_d, ipos, ineg, dpos, dneg]; try simp (config := { maxSteps := 10000000 }) only [go_sem, List.reduceReplicate, BitVec.reduceOfInt, BitVec.reduceToNat, BitVec.reduceToInt, BitVec.reduceEq, BitVec.reduceLT, BitVec.reduceLE, BitVec.reduceAdd, BitVec.reduceSub, BitVec.reduceMul, BitVec.reduceUDiv, BitVec.reduceUMod, BitVec.reduceAnd, BitVec.reduceOr, BitVec.reduceXOr, BitVec.reduceNot, BitVec.reduceNeg, BitVec.reduceHShiftLeft, BitVec.reduceHShiftRight, Nat.reduceAdd, Nat.reduceMul, Nat.reduceSub, Nat.reduceBEq, Nat.reduceEqDiff, Nat.reduceLeDiff, Nat.reduceLT, Int.reduceLE, Int.reduceLT, Int.reduceAdd, Int.reduceSub, Int.reduceMul, Int.reduceNeg, Int.reduceToNat, Int.reduceEq, ↓reduceIte, reduceCtorEq, s_rof_eq, s_edo_eq, s_rclass_eq, s_rksize_eq, s_xlive_eq, List.length_map, hl, tk, p2, hw, hz2, hc7, e, er, h0, h1, g1, e5, e6]))
        · have er := rg_get (x := x) (W := W) hl r1
          rw [if_neg (fun h => h1 h.2)] at er
          rw [er] at e
          (try simp (config := { maxSteps := 10000000 }) only [go_sem, List.reduceReplicate, BitVec.reduceOfInt, BitVec.reduceToNat, BitVec.reduceToInt, BitVec.reduceEq, BitVec.reduceLT, BitVec.reduceLE, BitVec.reduceAdd, BitVec.reduceSub, BitVec.reduceMul, BitVec.reduceUDiv, BitVec.reduceUMod, BitVec.reduceAnd, BitVec.reduceOr, BitVec.reduceXOr, BitVec.reduceNot, BitVec.reduceNeg, BitVec.reduceHShiftLeft, BitVec.reduceHShiftRight, Nat.reduceAdd, Nat.reduceMul, Nat.reduceSub, Nat.reduceBEq, Nat.reduceEqDiff, Nat.reduceLeDiff, Nat.reduceLT, Int.reduceLE, Int.reduceLT, Int.reduceAdd, Int.reduceSub, Int.reduceMul, Int.reduceNeg, Int.reduceToNat, Int.reduceEq, ↓reduceIte, reduceCtorEq, s_rof_eq, s_edo_eq, s_rclass_eq, s_rksize_eq, s_xlive_eq, List.length_map, hl, tk, p2, hw, hz2, hc7, e, er, h0, h1]; repeat (simp (disch := omega) only [w64_d, ipos, ineg, dpos, dneg]; try simp (config := { maxSteps := 10000000 }) only [go_sem, List.reduceReplicate, BitVec.reduceOfInt, BitVec.reduceToNat, BitVec.reduceToInt, BitVec.reduceEq, BitVec.reduceLT, BitVec.reduceLE, BitVec.reduceAdd, BitVec.reduceSub, BitVec.reduceMul, BitVec.reduceUDiv, BitVec.reduceUMod, BitVec.reduceAnd, BitVec.reduceOr, BitVec.reduceXOr, BitVec.reduceNot, BitVec.reduceNeg, BitVec.reduceHShiftLeft, BitVec.reduceHShiftRight, Nat.reduceAdd, Nat.reduceMul, Nat.reduceSub, Nat.reduceBEq, Nat.reduceEqDiff, Nat.reduceLeDiff, Nat.reduceLT, Int.reduceLE, Int.reduceLT, Int.reduceAdd, Int.reduceSub, Int.reduceMul, Int.reduceNeg, Int.reduceToNat, Int.reduceEq, ↓reduceIte, reduceCtorEq, s_rof_eq, s_edo_eq, s_rclass_eq, s_rksize_eq, s_xlive_eq, List.length_map, hl, tk, p2, hw, hz2, hc7, e, er, h0, h1]))
      · have er := rg_get (x := x) (W := W) hl r1
        rw [if_neg (fun h => h0 h.1)] at er
        rw [er] at e
        (try simp (config := { maxSteps := 10000000 }) only [go_sem, List.reduceReplicate, BitVec.reduceOfInt, BitVec.reduceToNat, BitVec.reduceToInt, BitVec.reduceEq, BitVec.reduceLT, BitVec.reduceLE, BitVec.reduceAdd, BitVec.reduceSub, BitVec.reduceMul, BitVec.reduceUDiv, BitVec.reduceUMod, BitVec.reduceAnd, BitVec.reduceOr, BitVec.reduceXOr, BitVec.reduceNot, BitVec.reduceNeg, BitVec.reduceHShiftLeft, BitVec.reduceHShiftRight, Nat.reduceAdd, Nat.reduceMul, Nat.reduceSub, Nat.reduceBEq, Nat.reduceEqDiff, Nat.reduceLeDiff, Nat.reduceLT, Int.reduceLE, Int.reduceLT, Int.reduceAdd, Int.reduceSub, Int.reduceMul, Int.reduceNeg, Int.reduceToNat, Int.reduceEq, ↓reduceIte, reduceCtorEq, s_rof_eq, s_edo_eq, s_rclass_eq, s_rksize_eq, s_xlive_eq, List.length_map, hl, tk, p2, hw, hz2, hc7, e, er, h0]; repeat (simp (disch := omega) only [w64_d, ipos, ineg, dpos, dneg]; try simp (config := { maxSteps := 10000000 }) only [go_sem, List.reduceReplicate, BitVec.reduceOfInt, BitVec.reduceToNat, BitVec.reduceToInt, BitVec.reduceEq, BitVec.reduceLT, BitVec.reduceLE, BitVec.reduceAdd, BitVec.reduceSub, BitVec.reduceMul, BitVec.reduceUDiv, BitVec.reduceUMod, BitVec.reduceAnd, BitVec.reduceOr, BitVec.reduceXOr, BitVec.reduceNot, BitVec.reduceNeg, BitVec.reduceHShiftLeft, BitVec.reduceHShiftRight, Nat.reduceAdd, Nat.reduceMul, Nat.reduceSub, Nat.reduceBEq, Nat.reduceEqDiff, Nat.reduceLeDiff, Nat.reduceLT, Int.reduceLE, Int.reduceLT, Int.reduceAdd, Int.reduceSub, Int.reduceMul, Int.reduceNeg, Int.reduceToNat, Int.reduceEq, ↓reduceIte, reduceCtorEq, s_rof_eq, s_edo_eq, s_rclass_eq, s_rksize_eq, s_xlive_eq, List.length_map, hl, tk, p2, hw, hz2, hc7, e, er, h0]))
    · simp at h
  · simp at h
set_option maxHeartbeats 8000000 in
def s_xk6 (args : List AV) : Option AV :=
  match args with
  | [.g [.i op, .i rd, .i r1, .i r2, .i im, .i cs, .b aq, .b rl], .c (.u pc), .g ws, .c (.i pr)] => if isU32 ws ∧ classI op = 6 then some (.c (.b true)) else none
  | _ => none
theorem s_xk6_eq {op rd r1 r2 im cs aq rl pc ws pr} : s_xk6 [.g [.i op, .i rd, .i r1, .i r2, .i im, .i cs, .b aq, .b rl], .c (.u pc), .g ws, .c (.i pr)] = if isU32 ws ∧ classI op = 6 then some (.c (.b true)) else none := rfl
set_option maxRecDepth 100000 in
set_option maxHeartbeats 2000000 in
theorem ok_xk6 : PuOk Try.prog 4 s_xk6 := by
  refine pu_ok (tab := [(8, .pu s_rof), (9, .fq s_edo), (10, .pu s_rclass), (11, .pu s_rksize), (7, .pu s_xlive)]) hmix (TabOk.cons (e := .pu s_rof) ok_rof (TabOk.cons (e := .fq s_edo) ok_edo (TabOk.cons (e := .pu s_rclass) ok_rclass (TabOk.cons (e := .pu s_rksize) ok_rksize (TabOk.cons (e := .pu s_xlive) ok_xlive TabOk.nil))))) Try.func4 rfl Try.results4 Try.ntmps4 (by kernel_rfl) (by kernel_rfl) ?_
  intro args v h
  unfold s_xk6 at h
  split at h
  · rename_i op rd r1 r2 im cs aq rl pc ws pr
    split at h
    · rename_i hc
      simp only [Option.some.injEq] at h; subst h
      obtain ⟨hw, hc7⟩ := hc
      obtain ⟨x, W, rfl, hl⟩ := isU32_inv hw
      obtain ⟨p1, p2, p3⟩ := us_pf W
      have px : (Sc.u x).pf = true := rfl
      refine ⟨by simp only [List.length_cons, List.length_nil]; decide, by first | rfl | simp only [List.all_cons, List.all_nil, AV.pf, Sc.pf, Bool.and_true, *], by first | rfl | simp only [List.all_cons, List.all_nil, AV.pf, Sc.pf, Bool.and_true, *], ?_⟩
      have tk : (W.map Sc.u).take 31 = W.map Sc.u := List.take_of_length_le (by simp [hl])
      have hz : ∀ (H : AH) (k : Nat), hg H k = .own (.u 0#64 :: W.map Sc.u) → rgOf H (.p k 0 0) = some (rgW (0#64 :: W)) := fun H k h => rg_of (W := 0#64 :: W) h (by simp [hl])
      have hz2 := hz [.own [.i op, .i rd, .i r1, .i r2, .i im, .i cs, .b aq, .b rl], .own (.u x :: W.map Sc.u), .own (.u 0#64 :: W.map Sc.u)] 2 rfl
      obtain ⟨rd1, ac, ak, da, e⟩ := do_5 (rd := rd) (im := im) (pc := pc) (a := rgW (0#64 :: W) r1) (b := rgW (0#64 :: W) r2) (pr := pr) (.inr hc7)
      unfold effL at e
      by_cases h0 : 0 < r1
      · by_cases h1 : r1 < 32
        · have er := rg_get (x := x) (W := W) hl r1
          rw [if_pos ⟨h0, h1⟩] at er
          have g1 : (Sc.u x :: W.map Sc.u).getD r1.toNat .any = .u ((x :: W).getD r1.toNat 0#64) := us_get (W := x :: W) (by simp [hl]; omega)
          have e5 : r1.toNat + 1 ≤ 32 := by omega
          have e6 : 0 ≤ r1 := by omega
          rw [er] at e
          (try simp (config := { maxSteps := 10000000 }) only [go_sem, List.reduceReplicate, BitVec.reduceOfInt, BitVec.reduceToNat, BitVec.reduceToInt, BitVec.reduceEq, BitVec.reduceLT, BitVec.reduceLE, BitVec.reduceAdd, BitVec.reduceSub, BitVec.reduceMul, BitVec.reduceUDiv, BitVec.reduceUMod, BitVec.reduceAnd, BitVec.reduceOr, BitVec.reduceXOr, BitVec.reduceNot, BitVec.reduceNeg, BitVec.reduceHShiftLeft, BitVec.reduceHShiftRight, Nat.reduceAdd, Nat.reduceMul, Nat.reduceSub, Nat.reduceBEq, Nat.reduceEqDiff, Nat.reduceLeDiff, Nat.reduceLT, Int.reduceLE, Int.reduceLT, Int.reduceAdd, Int.reduceSub, Int.reduceMul, Int.reduceNeg, Int.reduceToNat, Int.reduceEq, ↓reduceIte, reduceCtorEq, s_rof_eq, s_edo_eq, s_rclass_eq, s_rksize_eq, s_xlive_eq, List.length_map, hl, tk, p2, hw, hz2, hc7, e, er, h0, h1, g1, e5, e6]; repeat (simp (disch := omega) only [w64_d, ipos, ineg, dpos, dneg]; try simp (config := { maxSteps := 10000000 }) only [go_sem, List.reduceReplicate, BitVec.reduceOfInt, BitVec.reduceToNat, BitVec.reduceToInt, BitVec.reduceEq, BitVec.reduceLT, BitVec.reduceLE, BitVec.reduceAdd, BitVec.reduceSub, BitVec.reduceMul, BitVec.reduceUDiv, BitVec.reduceUMod, BitVec.reduceAnd, BitVec.reduceOr, BitVec.reduceXOr, BitVec.reduceNot, BitVec.reduceNeg, BitVec.reduceHShiftLeft, BitVec.reduceHShiftRight, Nat.reduceAdd, Nat.reduceMul, Nat.reduceSub, Nat.reduceBEq, Nat.reduceEqDiff, Nat.reduceLeDiff, Nat.reduceLT, Int.reduceLE, Int.reduceLT, Int.reduceAdd, Int.reduceSub, Int.reduceMul, Int.reduceNeg, Int.reduceToNat, Int.reduceEq, ↓reduceIte, reduceCtorEq, s_rof_eq, s_edo_eq, s_rclass_eq, s_rksize_eq, s_xlive_eq, List.length_map, hl, tk, p2, hw, hz2, hc7, e, er, h0, h1, g1, e5, e6]))
        · have er := rg_get (x := x) (W := W) hl r1
          rw [if_neg (fun h => h1 h.2)] at er
          rw [er] at e
          (try simp (config := { maxSteps := 10000000 }) only [go_sem, List.reduceReplicate, BitVec.reduceOfInt, BitVec.reduceToNat, BitVec.reduceToInt, BitVec.reduceEq, BitVec.reduceLT, BitVec.reduceLE, BitVec.reduceAdd, BitVec.reduceSub, BitVec.reduceMul, BitVec.reduceUDiv, BitVec.reduceUMod, BitVec.reduceAnd, BitVec.reduceOr, BitVec.reduceXOr, BitVec.reduceNot, BitVec.reduceNeg, BitVec.reduceHShiftLeft, BitVec.reduceHShiftRight, Nat.reduceAdd, Nat.reduceMul, Nat.reduceSub, Nat.reduceBEq, Nat.reduceEqDiff, Nat.reduceLeDiff, Nat.reduceLT, Int.reduceLE, Int.reduceLT, Int.reduceAdd, Int.reduceSub, Int.reduceMul, Int.reduceNeg, Int.reduceToNat, Int.reduceEq, ↓reduceIte, reduceCtorEq, s_rof_eq, s_edo_eq, s_rclass_eq, s_rksize_eq, s_xlive_eq, List.length_map, hl, tk, p2, hw, hz2, hc7, e, er, h0, h1]; repeat (simp (disch := omega) only [w64_d, ipos, ineg, dpos, dneg]; try simp (config := { maxSteps := 10000000 }) only [go_sem, List.reduceReplicate, BitVec.reduceOfInt, BitVec.reduceToNat, BitVec.reduceToInt, BitVec.reduceEq, BitVec.reduceLT, BitVec.reduceLE, BitVec.reduceAdd, BitVec.reduceSub, BitVec.reduceMul, BitVec.reduceUDiv, BitVec.reduceUMod, BitVec.reduceAnd, BitVec.reduceOr, BitVec.reduceXOr, BitVec.reduceNot, BitVec.reduceNeg, BitVec.reduceHShiftLeft, BitVec.reduceHShiftRight, Nat.reduceAdd, Nat.reduceMul, Nat.reduceSub, Nat.reduceBEq, Nat.reduceEqDiff, Nat.reduceLeDiff, Nat.reduceLT, Int.reduceLE, Int.reduceLT, Int.reduceAdd, Int.reduceSub, Int.reduceMul, Int.reduceNeg, Int.reduceToNat, Int.reduceEq, ↓reduceIte, reduceCtorEq, s_rof_eq, s_edo_eq, s_rclass_eq, s_rksize_eq, s_xlive_eq, List.length_map, hl, tk, p2, hw, hz2, hc7, e, er, h0, h1]))
      · have er := rg_get (x := x) (W := W) hl r1
        rw [if_neg (fun h => h0 h.1)] at er
        rw [er] at e
        (try simp (config := { maxSteps := 10000000 }) only [go_sem, List.reduceReplicate, BitVec.reduceOfInt, BitVec.reduceToNat, BitVec.reduceToInt, BitVec.reduceEq, BitVec.reduceLT, BitVec.reduceLE, BitVec.reduceAdd, BitVec.reduceSub, BitVec.reduceMul, BitVec.reduceUDiv, BitVec.reduceUMod, BitVec.reduceAnd, BitVec.reduceOr, BitVec.reduceXOr, BitVec.reduceNot, BitVec.reduceNeg, BitVec.reduceHShiftLeft, BitVec.reduceHShiftRight, Nat.reduceAdd, Nat.reduceMul, Nat.reduceSub, Nat.reduceBEq, Nat.reduceEqDiff, Nat.reduceLeDiff, Nat.reduceLT, Int.reduceLE, Int.reduceLT, Int.reduceAdd, Int.reduceSub, Int.reduceMul, Int.reduceNeg, Int.reduceToNat, Int.reduceEq, ↓reduceIte, reduceCtorEq, s_rof_eq, s_edo_eq, s_rclass_eq, s_rksize_eq, s_xlive_eq, List.length_map, hl, tk, p2, hw, hz2, hc7, e, er, h0]; repeat (simp (disch := omega) only [w64_d, ipos, ineg, dpos, dneg]; try simp (config := { maxSteps := 10000000 }) only [go_sem, List.reduceReplicate, BitVec.reduceOfInt, BitVec.reduceToNat, BitVec.reduceToInt, BitVec.reduceEq, BitVec.reduceLT, BitVec.reduceLE, BitVec.reduceAdd, BitVec.reduceSub, BitVec.reduceMul, BitVec.reduceUDiv, BitVec.reduceUMod, BitVec.reduceAnd, BitVec.reduceOr, BitVec.reduceXOr, BitVec.reduceNot, BitVec.reduceNeg, BitVec.reduceHShiftLeft, BitVec.reduceHShiftRight, Nat.reduceAdd, Nat.reduceMul, Nat.reduceSub, Nat.reduceBEq, Nat.reduceEqDiff, Nat.reduceLeDiff, Nat.reduceLT, Int.reduceLE, Int.reduceLT, Int.reduceAdd, Int.reduceSub, Int.reduceMul, Int.reduceNeg, Int.reduceToNat, Int.reduceEq, ↓reduceIte, reduceCtorEq, s_rof_eq, s_edo_eq, s_rclass_eq, s_rksize_eq, s_xlive_eq, List.length_map, hl, tk, p2, hw, hz2, hc7, e, er, h0]))
    · simp at h
  · simp at h
set_option maxHeartbeats 8000000 in
def s_xk7 (args : List AV) : Option AV :=
  match args with
  | [.g [.i op, .i rd, .i r1, .i r2, .i im, .i cs, .b aq, .b rl], .c (.u pc), .g ws, .c (.i pr)] => if isU32 ws ∧ classI op = 7 then some (.c (.b true)) else none
  | _ => none
theorem s_xk7_eq {op rd r1 r2 im cs aq rl pc ws pr} : s_xk7 [.g [.i op, .i rd, .i r1, .i r2, .i im, .i cs, .b aq, .b rl], .c (.u pc), .g ws, .c (.i pr)] = if isU32 ws ∧ classI op = 7 then some (.c (.b true)) else none := rfl
set_option maxRecDepth 100000 in
set_option maxHeartbeats 2000000 in
theorem ok_xk7 : PuOk Try.prog 4 s_xk7 := by
  refine pu_ok (tab := [(8, .pu s_rof), (9, .fq s_edo), (10, .pu s_rclass), (11, .pu s_rksize), (7, .pu s_xlive)]) hmix (TabOk.cons (e := .pu s_rof) ok_rof (TabOk.cons (e := .fq s_edo) ok_edo (TabOk.cons (e := .pu s_rclass) ok_rclass (TabOk.cons (e := .pu s_rksize) ok_rksize (TabOk.cons (e := .pu s_xlive) ok_xlive TabOk.nil))))) Try.func4 rfl Try.results4 Try.ntmps4 (by kernel_rfl) (by kernel_rfl) ?_
  intro args v h
  unfold s_xk7 at h
  split at h
  · rename_i op rd r1 r2 im cs aq rl pc ws pr
    split at h
    · rename_i hc
      simp only [Option.some.injEq] at h; subst h
      obtain ⟨hw, hc7⟩ := hc
      obtain ⟨x, W, rfl, hl⟩ := isU32_inv hw
      obtain ⟨p1, p2, p3⟩ := us_pf W
      have px : (Sc.u x).pf = true := rfl
      refine ⟨by simp only [List.length_cons, List.length_nil]; decide, by first | rfl | simp only [List.all_cons, List.all_nil, AV.pf, Sc.pf, Bool.and_true, *], by first | rfl | simp only [List.all_cons, List.all_nil, AV.pf, Sc.pf, Bool.and_true, *], ?_⟩
      have tk : (W.map Sc.u).take 31 = W.map Sc.u := List.take_of_length_le (by simp [hl])
      have hz : ∀ (H : AH) (k : Nat), hg H k = .own (.u 0#64 :: W.map Sc.u) → rgOf H (.p k 0 0) = some (rgW (0#64 :: W)) := fun H k h => rg_of (W := 0#64 :: W) h (by simp [hl])
      have hz2 := hz [.own [.i op, .i rd, .i r1, .i r2, .i im, .i cs, .b aq, .b rl], .own (.u x :: W.map Sc.u), .own (.u 0#64 :: W.map Sc.u)] 2 rfl
      rcases do_7 (rd := rd) (im := im) (pc := pc) (a := rgW (0#64 :: W) r1) (b := rgW (0#64 :: W) r2) (pr := pr) hc7 with ⟨rd1, ac, ak, da, e⟩ | ⟨cd, tv, e⟩
      · unfold effL at e
        by_cases h0 : 0 < r1
        · by_cases h1 : r1 < 32
          · have er := rg_get (x := x) (W := W) hl r1
            rw [if_pos ⟨h0, h1⟩] at er
            have g1 : (Sc.u x :: W.map Sc.u).getD r1.toNat .any = .u ((x :: W).getD r1.toNat 0#64) := us_get (W := x :: W) (by simp [hl]; omega)
            have e5 : r1.toNat + 1 ≤ 32 := by omega
            have e6 : 0 ≤ r1 := by omega
            rw [er] at e
            (try simp (config := { maxSteps := 10000000 }) only [go_sem, List.reduceReplicate, BitVec.reduceOfInt, BitVec.reduceToNat, BitVec.reduceToInt, BitVec.reduceEq, BitVec.reduceLT, BitVec.reduceLE, BitVec.reduceAdd, BitVec.reduceSub, BitVec.reduceMul, BitVec.reduceUDiv, BitVec.reduceUMod, BitVec.reduceAnd, BitVec.reduceOr, BitVec.reduceXOr, BitVec.reduceNot, BitVec.reduceNeg, BitVec.reduceHShiftLeft, BitVec.reduceHShiftRight, Nat.reduceAdd, Nat.reduceMul, Nat.reduceSub, Nat.reduceBEq, Nat.reduceEqDiff, Nat.reduceLeDiff, Nat.reduceLT, Int.reduceLE, Int.reduceLT, Int.reduceAdd, Int.reduceSub, Int.reduceMul, Int.reduceNeg, Int.reduceToNat, Int.reduceEq, ↓reduceIte, reduceCtorEq, s_rof_eq, s_edo_eq, s_rclass_eq, s_rksize_eq, s_xlive_eq, List.length_map, hl, tk, p2, hw, hz2, hc7, e, er, h0, h1, g1, e5, e6]; repeat (simp (disch := omega) only [w64_d, ipos, ineg, dpos, dneg]; try simp (config := { maxSteps := 10000000 }) only [go_sem, List.reduceReplicate, BitVec.reduceOfInt, BitVec.reduceToNat, BitVec.reduceToInt, BitVec.reduceEq, BitVec.reduceLT, BitVec.reduceLE, BitVec.reduceAdd, BitVec.reduceSub, BitVec.reduceMul, BitVec.reduceUDiv, BitVec.reduceUMod, BitVec.reduceAnd, BitVec.reduceOr, BitVec.reduceXOr, BitVec.reduceNot, BitVec.reduceNeg, BitVec.reduceHShiftLeft, BitVec.reduceHShiftRight, Nat.reduceAdd, Nat.reduceMul, Nat.reduceSub, Nat.reduceBEq, Nat.reduceEqDiff, Nat.reduceLeDiff, Nat.reduceLT, Int.reduceLE, Int.reduceLT, Int.reduceAdd, Int.reduceSub, Int.reduceMul, Int.reduceNeg, Int.reduceToNat, Int.reduceEq, ↓reduceIte, reduceCtorEq, s_rof_eq, s_edo_eq, s_rclass_eq, s_rksize_eq, s_xlive_eq, List.length_map, hl, tk, p2, hw, hz2, hc7, e, er, h0, h1, g1, e5, e6]))
          · have er := rg_get (x := x) (W := W) hl r1
            rw [if_neg (fun h => h1 h.2)] at er
            rw [er] at e
            (try simp (config := { maxSteps := 10000000 }) only [go_sem, List.reduceReplicate, BitVec.reduceOfInt, BitVec.reduceToNat, BitVec.reduceToInt, BitVec.reduceEq, BitVec.reduceLT, BitVec.reduceLE, BitVec.reduceAdd, BitVec.reduceSub, BitVec.reduceMul, BitVec.reduceUDiv, BitVec.reduceUMod, BitVec.reduceAnd, BitVec.reduceOr, BitVec.reduceXOr, BitVec.reduceNot, BitVec.reduceNeg, BitVec.reduceHShiftLeft, BitVec.reduceHShiftRight, Nat.reduceAdd, Nat.reduceMul, Nat.reduceSub, Nat.reduceBEq, Nat.reduceEqDiff, Nat.reduceLeDiff, Nat.reduceLT, Int.reduceLE, Int.reduceLT, Int.reduceAdd, Int.reduceSub, Int.reduceMul, Int.reduceNeg, Int.reduceToNat, Int.reduceEq, ↓reduceIte, reduceCtorEq, s_rof_eq, s_edo_eq, s_rclass_eq, s_rksize_eq, s_xlive_eq, List.length_map, hl, tk, p2, hw, hz2, hc7, e, er, h0, h1]; repeat (simp (disch := omega) only [w64_d, ipos, ineg, dpos, dneg]; try simp (config := { maxSteps := 10000000 }) only [go_sem, List.reduceReplicate, BitVec.reduceOfInt, BitVec.reduceToNat, BitVec.reduceToInt, BitVec.reduceEq, BitVec.reduceLT, BitVec.reduceLE, BitVec.reduceAdd, BitVec.reduceSub, BitVec.reduceMul, BitVec.reduceUDiv, BitVec.reduceUMod, BitVec.reduceAnd, BitVec.reduceOr, BitVec.reduceXOr, BitVec.reduceNot, BitVec.reduceNeg, BitVec.reduceHShiftLeft, BitVec.reduceHShiftRight, Nat.reduceAdd, Nat.reduceMul, Nat.reduceSub, Nat.reduceBEq, Nat.reduceEqDiff, Nat.reduceLeDiff, Nat.reduceLT, Int.reduceLE, Int.reduceLT, Int.reduceAdd, Int.reduceSub, Int.reduceMul, Int.reduceNeg, Int.reduceToNat, Int.reduceEq, ↓reduceIte, reduceCtorEq, s_rof_eq, s_edo_eq, s_rclass_eq, s_rksize_eq, s_xlive_eq, List.length_map, hl, tk, p2, hw, hz2, hc7, e, er, h0, h1]))
        · have er := rg_get (x := x) (W := W) hl r1
          rw [if_neg (fun h => h0 h.1)] at er
          rw [er] at e
          (try simp (config := { maxSteps := 10000000 }) only [go_sem, List.reduceReplicate, BitVec.reduceOfInt, BitVec.reduceToNat, BitVec.reduceToInt, BitVec.reduceEq, BitVec.reduceLT, BitVec.reduceLE, BitVec.reduceAdd, BitVec.reduceSub, BitVec.reduceMul, BitVec.reduceUDiv, BitVec.reduceUMod, BitVec.reduceAnd, BitVec.reduceOr, BitVec.reduceXOr, BitVec.reduceNot, BitVec.reduceNeg, BitVec.reduceHShiftLeft, BitVec.reduceHShiftRight, Nat.reduceAdd, Nat.reduceMul, Nat.reduceSub, Nat.reduceBEq, Nat.reduceEqDiff, Nat.reduceLeDiff, Nat.reduceLT, Int.reduceLE, Int.reduceLT, Int.reduceAdd, Int.reduceSub, Int.reduceMul, Int.reduceNeg, Int.reduceToNat, Int.reduceEq, ↓reduceIte, reduceCtorEq, s_rof_eq, s_edo_eq, s_rclass_eq, s_rksize_eq, s_xlive_eq, List.length_map, hl, tk, p2, hw, hz2, hc7, e, er, h0]; repeat (simp (disch := omega) only [w64_d, ipos, ineg, dpos, dneg]; try simp (config := { maxSteps := 10000000 }) only [go_sem, List.reduceReplicate, BitVec.reduceOfInt, BitVec.reduceToNat, BitVec.reduceToInt, BitVec.reduceEq, BitVec.reduceLT, BitVec.reduceLE, BitVec.reduceAdd, BitVec.reduceSub, BitVec.reduceMul, BitVec.reduceUDiv, BitVec.reduceUMod, BitVec.reduceAnd, BitVec.reduceOr, BitVec.reduceXOr, BitVec.reduceNot, BitVec.reduceNeg, BitVec.reduceHShiftLeft, BitVec.reduceHShiftRight, Nat.reduceAdd, Nat.reduceMul, Nat.reduceSub, Nat.reduceBEq, Nat.reduceEqDiff, Nat.reduceLeDiff, Nat.reduceLT, Int.reduceLE, Int.reduceLT, Int.reduceAdd, Int.reduceSub, Int.reduceMul, Int.reduceNeg, Int.reduceToNat, Int.reduceEq, ↓reduceIte, reduceCtorEq, s_rof_eq, s_edo_eq, s_rclass_eq, s_rksize_eq, s_xlive_eq, List.length_map, hl, tk, p2, hw, hz2, hc7, e, er, h0]))
      · unfold trapL effL at e
        (try simp (config := { maxSteps := 10000000 }) only [go_sem, List.reduceReplicate, BitVec.reduceOfInt, BitVec.reduceToNat, BitVec.reduceToInt, BitVec.reduceEq, BitVec.reduceLT, BitVec.reduceLE, BitVec.reduceAdd, BitVec.reduceSub, BitVec.reduceMul, BitVec.reduceUDiv, BitVec.reduceUMod, BitVec.reduceAnd, BitVec.reduceOr, BitVec.reduceXOr, BitVec.reduceNot, BitVec.reduceNeg, BitVec.reduceHShiftLeft, BitVec.reduceHShiftRight, Nat.reduceAdd, Nat.reduceMul, Nat.reduceSub, Nat.reduceBEq, Nat.reduceEqDiff, Nat.reduceLeDiff, Nat.reduceLT, Int.reduceLE, Int.reduceLT, Int.reduceAdd, Int.reduceSub, Int.reduceMul, Int.reduceNeg, Int.reduceToNat, Int.reduceEq, ↓reduceIte, reduceCtorEq, s_rof_eq, s_edo_eq, s_rclass_eq, s_rksize_eq, s_xlive_eq, List.length_map, hl, tk, p2, hw, hz2, hc7, e]; repeat (simp (disch := omega) only [w64_d, ipos, ineg, dpos, dneg]; try simp (config := { maxSteps := 10000000 }) only [go_sem, List.reduceReplicate, BitVec.reduceOfInt, BitVec.reduceToNat, BitVec.reduceToInt, BitVec.reduceEq, BitVec.reduceLT, BitVec.reduceLE, BitVec.reduceAdd, BitVec.reduceSub, BitVec.reduceMul, BitVec.reduceUDiv, BitVec.reduceUMod, BitVec.reduceAnd, BitVec.reduceOr, BitVec.reduceXOr, BitVec.reduceNot, BitVec.reduceNeg, BitVec.reduceHShiftLeft, BitVec.reduceHShiftRight, Nat.reduceAdd, Nat.reduceMul, Nat.reduceSub, Nat.reduceBEq, Nat.reduceEqDiff, Nat.reduceLeDiff, Nat.reduceLT, Int.reduceLE, Int.reduceLT, Int.reduceAdd, Int.reduceSub, Int.reduceMul, Int.reduceNeg, Int.reduceToNat, Int.reduceEq, ↓reduceIte, reduceCtorEq, s_rof_eq, s_edo_eq, s_rclass_eq, s_rksize_eq, s_xlive_eq, List.length_map, hl, tk, p2, hw, hz2, hc7, e]))
    · simp at h
  · simp at h
set_option maxHeartbeats 8000000 in
def s_xk0 (args : List AV) : Option AV :=
  match args with
  | [.g [.i op, .i rd, .i r1, .i r2, .i im, .i cs, .b aq, .b rl], .c (.u pc), .g ws, .c (.i pr)] => if isU32 ws ∧ classI op = 0 then some (.c (.b true)) else none
  | _ => none
theorem s_xk0_eq {op rd r1 r2 im cs aq rl pc ws pr} : s_xk0 [.g [.i op, .i rd, .i r1, .i r2, .i im, .i cs, .b aq, .b rl], .c (.u pc), .g ws, .c (.i pr)] = if isU32 ws ∧ classI op = 0 then some (.c (.b true)) else none := rfl
set_option maxRecDepth 100000 in
set_option maxHeartbeats 2000000 in
theorem ok_xk0 : PuOk Try.prog 4 s_xk0 := by
  refine pu_ok (tab := [(8, .pu s_rof), (9, .fq s_edo), (10, .pu s_rclass), (11, .pu s_rksize), (7, .pu s_xlive)]) hmix (TabOk.cons (e := .pu s_rof) ok_rof (TabOk.cons (e := .fq s_edo) ok_edo (TabOk.cons (e := .pu s_rclass) ok_rclass (TabOk.cons (e := .pu s_rksize) ok_rksize (TabOk.cons (e := .pu s_xlive) ok_xlive TabOk.nil))))) Try.func4 rfl Try.results4 Try.ntmps4 (by kernel_rfl) (by kernel_rfl) ?_
  intro args v h
  unfold s_xk0 at h
  split at h
  · rename_i op rd r1 r2 im cs aq rl pc ws pr
    split at h
    · rename_i hc
      simp only [Option.some.injEq] at h; subst h
      obtain ⟨hw, hc7⟩ := hc
      obtain ⟨x, W, rfl, hl⟩ := isU32_inv hw
      obtain ⟨p1, p2, p3⟩ := us_pf W
      have px : (Sc.u x).pf = true := rfl
      refine ⟨by simp only [List.length_cons, List.length_nil]; decide, by first | rfl | simp only [List.all_cons, List.all_nil, AV.pf, Sc.pf, Bool.and_true, *], by first | rfl | simp only [List.all_cons, List.all_nil, AV.pf, Sc.pf, Bool.and_true, *], ?_⟩
      have tk : (W.map Sc.u).take 31 = W.map Sc.u := List.take_of_length_le (by simp [hl])
      have hz : ∀ (H : AH) (k : Nat), hg H k = .own (.u 0#64 :: W.map Sc.u) → rgOf H (.p k 0 0) = some (rgW (0#64 :: W)) := fun H k h => rg_of (W := 0#64 :: W) h (by simp [hl])
      have hz2 := hz [.own [.i op, .i rd, .i r1, .i r2, .i im, .i cs, .b aq, .b rl], .own (.u x :: W.map Sc.u), .own (.u 0#64 :: W.map Sc.u)] 2 rfl
      have n1 : op ≠ 52 := fun h => by rw [class_52 (.inl h)] at hc7; omega
      have n2 : op ≠ 53 := fun h => by rw [class_52 (.inr h)] at hc7; omega
      have e := do_s (rd := rd) (im := im) (pc := pc) (a := rgW (0#64 :: W) r1) (b := rgW (0#64 :: W) r2) (pr := pr) (.inl hc7) n1 n2
      unfold effL at e
      (try simp (config := { maxSteps := 10000000 }) only [go_sem, List.reduceReplicate, BitVec.reduceOfInt, BitVec.reduceToNat, BitVec.reduceToInt, BitVec.reduceEq, BitVec.reduceLT, BitVec.reduceLE, BitVec.reduceAdd, BitVec.reduceSub, BitVec.reduceMul, BitVec.reduceUDiv, BitVec.reduceUMod, BitVec.reduceAnd, BitVec.reduceOr, BitVec.reduceXOr, BitVec.reduceNot, BitVec.reduceNeg, BitVec.reduceHShiftLeft, BitVec.reduceHShiftRight, Nat.reduceAdd, Nat.reduceMul, Nat.reduceSub, Nat.reduceBEq, Nat.reduceEqDiff, Nat.reduceLeDiff, Nat.reduceLT, Int.reduceLE, Int.reduceLT, Int.reduceAdd, Int.reduceSub, Int.reduceMul, Int.reduceNeg, Int.reduceToNat, Int.reduceEq, ↓reduceIte, reduceCtorEq, s_rof_eq, s_edo_eq, s_rclass_eq, s_rksize_eq, s_xlive_eq, List.length_map, hl, tk, p2, hw, hz2, hc7, e]; repeat (simp (disch := omega) only [w64_d, ipos, ineg, dpos, dneg]; try simp (config := { maxSteps := 10000000 }) only [go_sem, List.reduceReplicate, BitVec.reduceOfInt, BitVec.reduceToNat, BitVec.reduceToInt, BitVec.reduceEq, BitVec.reduceLT, BitVec.reduceLE, BitVec.reduceAdd, BitVec.reduceSub, BitVec.reduceMul, BitVec.reduceUDiv, BitVec.reduceUMod, BitVec.reduceAnd, BitVec.reduceOr, BitVec.reduceXOr, BitVec.reduceNot, BitVec.reduceNeg, BitVec.reduceHShiftLeft, BitVec.reduceHShiftRight, Nat.reduceAdd, Nat.reduceMul, Nat.reduceSub, Nat.reduceBEq, Nat.reduceEqDiff, Nat.reduceLeDiff, Nat.reduceLT, Int.reduceLE, Int.reduceLT, Int.reduceAdd, Int.reduceSub, Int.reduceMul, Int.reduceNeg, Int.reduceToNat, Int.reduceEq, ↓reduceIte, reduceCtorEq, s_rof_eq, s_edo_eq, s_rclass_eq, s_rksize_eq, s_xlive_eq, List.length_map, hl, tk, p2, hw, hz2, hc7, e]))
    · simp at h
  · simp at h
set_option maxHeartbeats 8000000 in
def s_xk8 (args : List AV) : Option AV :=
  match args with
  | [.g [.i op, .i rd, .i r1, .i r2, .i im, .i cs, .b aq, .b rl], .c (.u pc), .g ws, .c (.i pr)] => if isU32 ws ∧ classI op = 8 then some (.c (.b true)) else none
  | _ => none
theorem s_xk8_eq {op rd r1 r2 im cs aq rl pc ws pr} : s_xk8 [.g [.i op, .i rd, .i r1, .i r2, .i im, .i cs, .b aq, .b rl], .c (.u pc), .g ws, .c (.i pr)] = if isU32 ws ∧ classI op = 8 then some (.c (.b true)) else none := rfl
set_option maxRecDepth 100000 in
set_option maxHeartbeats 2000000 in
theorem ok_xk8 : PuOk Try.prog 4 s_xk8 := by
  refine pu_ok (tab := [(8, .pu s_rof), (9, .fq s_edo), (10, .pu s_rclass), (11, .pu s_rksize), (7, .pu s_xlive)]) hmix (TabOk.cons (e := .pu s_rof) ok_rof (TabOk.cons (e := .fq s_edo) ok_edo (TabOk.cons (e := .pu s_rclass) ok_rclass (TabOk.cons (e := .pu s_rksize) ok_rksize (TabOk.cons (e := .pu s_xlive) ok_xlive TabOk.nil))))) Try.func4 rfl Try.results4 Try.ntmps4 (by kernel_rfl) (by kernel_rfl) ?_
  intro args v h
  unfold s_xk8 at h
  split at h
  · rename_i op rd r1 r2 im cs aq rl pc ws pr
    split at h
    · rename_i hc
      simp only [Option.some.injEq] at h; subst h
      obtain ⟨hw, hc7⟩ := hc
      obtain ⟨x, W, rfl, hl⟩ := isU32_inv hw
      obtain ⟨p1, p2, p3⟩ := us_pf W
      have px : (Sc.u x).pf = true := rfl
      refine ⟨by simp only [List.length_cons, List.length_nil]; decide, by first | rfl | simp only [List.all_cons, List.all_nil, AV.pf, Sc.pf, Bool.and_true, *], by first | rfl | simp only [List.all_cons, List.all_nil, AV.pf, Sc.pf, Bool.and_true, *], ?_⟩
      have tk : (W.map Sc.u).take 31 = W.map Sc.u := List.take_of_length_le (by simp [hl])
      have hz : ∀ (H : AH) (k : Nat), hg H k = .own (.u 0#64 :: W.map Sc.u) → rgOf H (.p k 0 0) = some (rgW (0#64 :: W)) := fun H k h => rg_of (W := 0#64 :: W) h (by simp [hl])
      have hz2 := hz [.own [.i op, .i rd, .i r1, .i r2, .i im, .i cs, .b aq, .b rl], .own (.u x :: W.map Sc.u), .own (.u 0#64 :: W.map Sc.u)] 2 rfl
      have n1 : op ≠ 52 := fun h => by rw [class_52 (.inl h)] at hc7; omega
      have n2 : op ≠ 53 := fun h => by rw [class_52 (.inr h)] at hc7; omega
      have e := do_s (rd := rd) (im := im) (pc := pc) (a := rgW (0#64 :: W) r1) (b := rgW (0#64 :: W) r2) (pr := pr) (.inr (.inl hc7)) n1 n2
      unfold effL at e
      (try simp (config := { maxSteps := 10000000 }) only [go_sem, List.reduceReplicate, BitVec.reduceOfInt, BitVec.reduceToNat, BitVec.reduceToInt, BitVec.reduceEq, BitVec.reduceLT, BitVec.reduceLE, BitVec.reduceAdd, BitVec.reduceSub, BitVec.reduceMul, BitVec.reduceUDiv, BitVec.reduceUMod, BitVec.reduceAnd, BitVec.reduceOr, BitVec.reduceXOr, BitVec.reduceNot, BitVec.reduceNeg, BitVec.reduceHShiftLeft, BitVec.reduceHShiftRight, Nat.reduceAdd, Nat.reduceMul, Nat.reduceSub, Nat.reduceBEq, Nat.reduceEqDiff, Nat.reduceLeDiff, Nat.reduceLT, Int.reduceLE, Int.reduceLT, Int.reduceAdd, Int.reduceSub, Int.reduceMul, Int.reduceNeg, Int.reduceToNat, Int.reduceEq, ↓reduceIte, reduceCtorEq, s_rof_eq, s_edo_eq, s_rclass_eq, s_rksize_eq, s_xlive_eq, List.length_map, hl, tk, p2, hw, hz2, hc7, e]; repeat (simp (disch := omega) only [w64_d, ipos, ineg, dpos, dneg]; try simp (config := { maxSteps := 10000000 }) only [go_sem, List.reduceReplicate, BitVec.reduceOfInt, BitVec.reduceToNat, BitVec.reduceToInt, BitVec.reduceEq, BitVec.reduceLT, BitVec.reduceLE, BitVec.reduceAdd, BitVec.reduceSub, BitVec.reduceMul, BitVec.reduceUDiv, BitVec.reduceUMod, BitVec.reduceAnd, BitVec.reduceOr, BitVec.reduceXOr, BitVec.reduceNot, BitVec.reduceNeg, BitVec.reduceHShiftLeft, BitVec.reduceHShiftRight, Nat.reduceAdd, Nat.reduceMul, Nat.reduceSub, Nat.reduceBEq, Nat.reduceEqDiff, Nat.reduceLeDiff, Nat.reduceLT, Int.reduceLE, Int.reduceLT, Int.reduceAdd, Int.reduceSub, Int.reduceMul, Int.reduceNeg, Int.reduceToNat, Int.reduceEq, ↓reduceIte, reduceCtorEq, s_rof_eq, s_edo_eq, s_rclass_eq, s_rksize_eq, s_xlive_eq, List.length_map, hl, tk, p2, hw, hz2, hc7, e]))
    · simp at h
  · simp at h
set_option maxHeartbeats 8000000 in
def s_xk10 (args : List AV) : Option AV :=
  match args with
  | [.g [.i op, .i rd, .i r1, .i r2, .i im, .i cs, .b aq, .b rl], .c (.u pc), .g ws, .c (.i pr)] => if isU32 ws ∧ classI op = 10 then some (.c (.b true)) else none
  | _ => none
theorem s_xk10_eq {op rd r1 r2 im cs aq rl pc ws pr} : s_xk10 [.g [.i op, .i rd, .i r1, .i r2, .i im, .i cs, .b aq, .b rl], .c (.u pc), .g ws, .c (.i pr)] = if isU32 ws ∧ classI op = 10 then some (.c (.b true)) else none := rfl
set_option maxRecDepth 100000 in
set_option maxHeartbeats 2000000 in
theorem ok_xk10 : PuOk Try.prog 4 s_xk10 := by
  refine pu_ok (tab := [(8, .pu s_rof), (9, .fq s_edo), (10, .pu s_rclass), (11, .pu s_rksize), (7, .pu s_xlive)]) hmix (TabOk.cons (e := .pu s_rof) ok_rof (TabOk.cons (e := .fq s_edo) ok_edo (TabOk.cons (e := .pu s_rclass) ok_rclass (TabOk.cons (e := .pu s_rksize) ok_rksize (TabOk.cons (e := .pu s_xlive) ok_xlive TabOk.nil))))) Try.func4 rfl Try.results4 Try.ntmps4 (by kernel_rfl) (by kernel_rfl) ?_
  intro args v h
  unfold s_xk10 at h
  split at h
  · rename_i op rd r1 r2 im cs aq rl pc ws pr
    split at h
    · rename_i hc
      simp only [Option.some.injEq] at h; subst h
      obtain ⟨hw, hc7⟩ := hc
      obtain ⟨x, W, rfl, hl⟩ := isU32_inv hw
      obtain ⟨p1, p2, p3⟩ := us_pf W
      have px : (Sc.u x).pf = true := rfl
      refine ⟨by simp only [List.length_cons, List.length_nil]; decide, by first | rfl | simp only [List.all_cons, List.all_nil, AV.pf, Sc.pf, Bool.and_true, *], by first | rfl | simp only [List.all_cons, List.all_nil, AV.pf, Sc.pf, Bool.and_true, *], ?_⟩
      have tk : (W.map Sc.u).take 31 = W.map Sc.u := List.take_of_length_le (by simp [hl])
      have hz : ∀ (H : AH) (k : Nat), hg H k = .own (.u 0#64 :: W.map Sc.u) → rgOf H (.p k 0 0) = some (rgW (0#64 :: W)) := fun H k h => rg_of (W := 0#64 :: W) h (by simp [hl])
      have hz2 := hz [.own [.i op, .i rd, .i r1, .i r2, .i im, .i cs, .b aq, .b rl], .own (.u x :: W.map Sc.u), .own (.u 0#64 :: W.map Sc.u)] 2 rfl
      by_cases n1 : op = 52
      · obtain ⟨cd, tv, e⟩ := do_c (rd := rd) (im := im) (pc := pc) (a := rgW (0#64 :: W) r1) (b := rgW (0#64 :: W) r2) (pr := pr) (.inl n1)
        unfold trapL effL at e
        subst n1
        (try simp (config := { maxSteps := 10000000 }) only [go_sem, List.reduceReplicate, BitVec.reduceOfInt, BitVec.reduceToNat, BitVec.reduceToInt, BitVec.reduceEq, BitVec.reduceLT, BitVec.reduceLE, BitVec.reduceAdd, BitVec.reduceSub, BitVec.reduceMul, BitVec.reduceUDiv, BitVec.reduceUMod, BitVec.reduceAnd, BitVec.reduceOr, BitVec.reduceXOr, BitVec.reduceNot, BitVec.reduceNeg, BitVec.reduceHShiftLeft, BitVec.reduceHShiftRight, Nat.reduceAdd, Nat.reduceMul, Nat.reduceSub, Nat.reduceBEq, Nat.reduceEqDiff, Nat.reduceLeDiff, Nat.reduceLT, Int.reduceLE, Int.reduceLT, Int.reduceAdd, Int.reduceSub, Int.reduceMul, Int.reduceNeg, Int.reduceToNat, Int.reduceEq, ↓reduceIte, reduceCtorEq, s_rof_eq, s_edo_eq, s_rclass_eq, s_rksize_eq, s_xlive_eq, List.length_map, hl, tk, p2, hw, hz2, hc7, e]; repeat (simp (disch := omega) only [w64_d, ipos, ineg, dpos, dneg]; try simp (config := { maxSteps := 10000000 }) only [go_sem, List.reduceReplicate, BitVec.reduceOfInt, BitVec.reduceToNat, BitVec.reduceToInt, BitVec.reduceEq, BitVec.reduceLT, BitVec.reduceLE, BitVec.reduceAdd, BitVec.reduceSub, BitVec.reduceMul, BitVec.reduceUDiv, BitVec.reduceUMod, BitVec.reduceAnd, BitVec.reduceOr, BitVec.reduceXOr, BitVec.reduceNot, BitVec.reduceNeg, BitVec.reduceHShiftLeft, BitVec.reduceHShiftRight, Nat.reduceAdd, Nat.reduceMul, Nat.reduceSub, Nat.reduceBEq, Nat.reduceEqDiff, Nat.reduceLeDiff, Nat.reduceLT, Int.reduceLE, Int.reduceLT, Int.reduceAdd, Int.reduceSub, Int.reduceMul, Int.reduceNeg, Int.reduceToNat, Int.reduceEq, ↓reduceIte, reduceCtorEq, s_rof_eq, s_edo_eq, s_rclass_eq, s_rksize_eq, s_xlive_eq, List.length_map, hl, tk, p2, hw, hz2, hc7, e]))
      by_cases n2 : op = 53
      · obtain ⟨cd, tv, e⟩ := do_c (rd := rd) (im := im) (pc := pc) (a := rgW (0#64 :: W) r1) (b := rgW (0#64 :: W) r2) (pr := pr) (.inr n2)
        unfold trapL effL at e
        subst n2
        (try simp (config := { maxSteps := 10000000 }) only [go_sem, List.reduceReplicate, BitVec.reduceOfInt, BitVec.reduceToNat, BitVec.reduceToInt, BitVec.reduceEq, BitVec.reduceLT, BitVec.reduceLE, BitVec.reduceAdd, BitVec.reduceSub, BitVec.reduceMul, BitVec.reduceUDiv, BitVec.reduceUMod, BitVec.reduceAnd, BitVec.reduceOr, BitVec.reduceXOr, BitVec.reduceNot, BitVec.reduceNeg, BitVec.reduceHShiftLeft, BitVec.reduceHShiftRight, Nat.reduceAdd, Nat.reduceMul, Nat.reduceSub, Nat.reduceBEq, Nat.reduceEqDiff, Nat.reduceLeDiff, Nat.reduceLT, Int.reduceLE, Int.reduceLT, Int.reduceAdd, Int.reduceSub, Int.reduceMul, Int.reduceNeg, Int.reduceToNat, Int.reduceEq, ↓reduceIte, reduceCtorEq, s_rof_eq, s_edo_eq, s_rclass_eq, s_rksize_eq, s_xlive_eq, List.length_map, hl, tk, p2, hw, hz2, hc7, e]; repeat (simp (disch := omega) only [w64_d, ipos, ineg, dpos, dneg]; try simp (config := { maxSteps := 10000000 }) only [go_sem, List.reduceReplicate, BitVec.reduceOfInt, BitVec.reduceToNat, BitVec.reduceToInt, BitVec.reduceEq, BitVec.reduceLT, BitVec.reduceLE, BitVec.reduceAdd, BitVec.reduceSub, BitVec.reduceMul, BitVec.reduceUDiv, BitVec.reduceUMod, BitVec.reduceAnd, BitVec.reduceOr, BitVec.reduceXOr, BitVec.reduceNot, BitVec.reduceNeg, BitVec.reduceHShiftLeft, BitVec.reduceHShiftRight, Nat.reduceAdd, Nat.reduceMul, Nat.reduceSub, Nat.reduceBEq, Nat.reduceEqDiff, Nat.reduceLeDiff, Nat.reduceLT, Int.reduceLE, Int.reduceLT, Int.reduceAdd, Int.reduceSub, Int.reduceMul, Int.reduceNeg, Int.reduceToNat, Int.reduceEq, ↓reduceIte, reduceCtorEq, s_rof_eq, s_edo_eq, s_rclass_eq, s_rksize_eq, s_xlive_eq, List.length_map, hl, tk, p2, hw, hz2, hc7, e]))
      · have e := do_s (rd := rd) (im := im) (pc := pc) (a := rgW (0#64 :: W) r1) (b := rgW (0#64 :: W) r2) (pr := pr) (.inr (.inr hc7)) n1 n2
        unfold effL at e
        (try simp (config := { maxSteps := 10000000 }) only [go_sem, List.reduceReplicate, BitVec.reduceOfInt, BitVec.reduceToNat, BitVec.reduceToInt, BitVec.reduceEq, BitVec.reduceLT, BitVec.reduceLE, BitVec.reduceAdd, BitVec.reduceSub, BitVec.reduceMul, BitVec.reduceUDiv, BitVec.reduceUMod, BitVec.reduceAnd, BitVec.reduceOr, BitVec.reduceXOr, BitVec.reduceNot, BitVec.reduceNeg, BitVec.reduceHShiftLeft, BitVec.reduceHShiftRight, Nat.reduceAdd, Nat.reduceMul, Nat.reduceSub, Nat.reduceBEq, Nat.reduceEqDiff, Nat.reduceLeDiff, Nat.reduceLT, Int.reduceLE, Int.reduceLT, Int.reduceAdd, Int.reduceSub, Int.reduceMul, Int.reduceNeg, Int.reduceToNat, Int.reduceEq, ↓reduceIte, reduceCtorEq, s_rof_eq, s_edo_eq, s_rclass_eq, s_rksize_eq, s_xlive_eq, List.length_map, hl, tk, p2, hw, hz2, hc7, e, n1, n2]; repeat (simp (disch := omega) only [w64_d, ipos, ineg, dpos, dneg]; try simp (config := { maxSteps := 10000000 }) only [go_sem, List.reduceReplicate, BitVec.reduceOfInt, BitVec.reduceToNat, BitVec.reduceToInt, BitVec.reduceEq, BitVec.reduceLT, BitVec.reduceLE, BitVec.reduceAdd, BitVec.reduceSub, BitVec.reduceMul, BitVec.reduceUDiv, BitVec.reduceUMod, BitVec.reduceAnd, BitVec.reduceOr, BitVec.reduceXOr, BitVec.reduceNot, BitVec.reduceNeg, BitVec.reduceHShiftLeft, BitVec.reduceHShiftRight, Nat.reduceAdd, Nat.reduceMul, Nat.reduceSub, Nat.reduceBEq, Nat.reduceEqDiff, Nat.reduceLeDiff, Nat.reduceLT, Int.reduceLE, Int.reduceLT, Int.reduceAdd, Int.reduceSub, Int.reduceMul, Int.reduceNeg, Int.reduceToNat, Int.reduceEq, ↓reduceIte, reduceCtorEq, s_rof_eq, s_edo_eq, s_rclass_eq, s_rksize_eq, s_xlive_eq, List.length_map, hl, tk, p2, hw, hz2, hc7, e, n1, n2]))
    · simp at h
  · simp at h
def s_xkinds (args : List AV) : Option AV :=
  match args with
  | [.g [.i op, .i rd, .i r1, .i r2, .i im, .i cs, .b aq, .b rl], .c (.u pc), .g ws, .c (.i pr)] => if isU32 ws then some (.c (.b true)) else none
  | _ => none
theorem ok_xkinds : PuOk Try.prog 4 s_xkinds :=
  ⟨ok_xk1.enters, fun args v hu ρ w cs hcs => by
    unfold s_xkinds at hu
    split at hu
    · rename_i op rd r1 r2 im cs aq rl pc ws pr
      split at hu
      · rename_i hw
        have c0 := class_r op
        have big : classI op = 1 ∨ classI op = 2 ∨ classI op = 9 ∨ classI op = 3 ∨ classI op = 4 ∨ classI op = 5 ∨ classI op = 6 ∨ classI op = 7 ∨ classI op = 0 ∨ classI op = 8 ∨ classI op = 10 := by omega
        rcases big with h | h | h | h | h | h | h | h | h | h | h
        · exact ok_xk1.pure _ v (by rw [s_xk1_eq, if_pos ⟨hw, h⟩]; exact hu) ρ w _ hcs
        · exact ok_xk2.pure _ v (by rw [s_xk2_eq, if_pos ⟨hw, h⟩]; exact hu) ρ w _ hcs
        · exact ok_xk9.pure _ v (by rw [s_xk9_eq, if_pos ⟨hw, h⟩]; exact hu) ρ w _ hcs
        · exact ok_xk3.pure _ v (by rw [s_xk3_eq, if_pos ⟨hw, h⟩]; exact hu) ρ w _ hcs
        · exact ok_xk4.pure _ v (by rw [s_xk4_eq, if_pos ⟨hw, h⟩]; exact hu) ρ w _ hcs
        · exact ok_xk5.pure _ v (by rw [s_xk5_eq, if_pos ⟨hw, h⟩]; exact hu) ρ w _ hcs
        · exact ok_xk6.pure _ v (by rw [s_xk6_eq, if_pos ⟨hw, h⟩]; exact hu) ρ w _ hcs
        · exact ok_xk7.pure _ v (by rw [s_xk7_eq, if_pos ⟨hw, h⟩]; exact hu) ρ w _ hcs
        · exact ok_xk0.pure _ v (by rw [s_xk0_eq, if_pos ⟨hw, h⟩]; exact hu) ρ w _ hcs
        · exact ok_xk8.pure _ v (by rw [s_xk8_eq, if_pos ⟨hw, h⟩]; exact hu) ρ w _ hcs
        · exact ok_xk10.pure _ v (by rw [s_xk10_eq, if_pos ⟨hw, h⟩]; exact hu) ρ w _ hcs
      · simp at hu
    · simp at hu⟩
def ksU : List K := List.replicate 32 (.n .u64)
theorem fitU : ∀ {n : Nat} {l : List Sc}, L2 FitK l (List.replicate n (K.n .u64)) → ∃ W : List (BitVec 64), l = W.map Sc.u ∧ W.length = n
  | 0, l, h => by obtain rfl := fit_nil h; exact ⟨[], rfl, rfl⟩
  | n + 1, l, h => by
    obtain ⟨s0, t0, rfl, k0, g⟩ := fit_cons (List.replicate_succ ▸ h)
    obtain ⟨x, rfl⟩ := fk_u k0
    obtain ⟨W, rfl, hl⟩ := fitU g
    exact ⟨x :: W, rfl, by simp [hl]⟩
theorem sig_xkinds (avs : List AV) (H : AH) (h : SigA [.fl true ksI, .fl false [.n .u64], .fl true ksU, .fl false [.n .i64]] avs H) : s_xkinds avs = some (.c (.b true)) := by
  obtain ⟨l0, r0, rfl, g0, h⟩ := sig_g h
  obtain ⟨s1, r1, rfl, k1, h⟩ := sig_c h
  obtain ⟨l2, r2, rfl, g2, h⟩ := sig_g h
  obtain ⟨s3, r3, rfl, k3, h⟩ := sig_c h
  obtain rfl := sig_nil h
  obtain ⟨op, rd, a1, a2, im, cs, aq, rl, rfl⟩ := fitI g0
  obtain ⟨pc, rfl⟩ := fk_u k1
  obtain ⟨pr, rfl, _⟩ := fk_i k3
  have : isU32 l2 := fitU g2
  show (if isU32 l2 then some (AV.c (.b true)) else none) = _
  rw [if_pos this]

end
end Go.Proofs.Ytjlbgjhnhhihoaa
