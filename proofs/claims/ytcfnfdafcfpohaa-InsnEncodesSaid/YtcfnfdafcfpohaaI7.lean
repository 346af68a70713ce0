/- Layer 3: fixed bits as a table (printed by g7.py); the law InsnApart. -/
import Derived.Test.YtcfnfdafcfpohaaI6
import Derived.Test.YtcfnfdafcfpohaaFr
namespace Go.Proofs.Ytcfnfdafcfpohaa
open Go.Am
set_option linter.unusedSimpArgs false
set_option linter.unusedVariables false
noncomputable section

def tabF : List (Nat × Nat) := [(0, 0), (127, 55), (127, 23), (127, 111), (28799, 103), (28799, 99), (28799, 4195), (28799, 16483), (28799, 20579), (28799, 24675), (28799, 28771), (28799, 3), (28799, 4099), (28799, 8195), (28799, 12291), (28799, 16387), (28799, 20483), (28799, 24579), (28799, 35), (28799, 4131), (28799, 8227), (28799, 12323), (28799, 19), (28799, 8211), (28799, 12307), (28799, 16403), (28799, 24595), (28799, 28691), (4227887231, 4115), (4227887231, 20499), (4227887231, 1073762323), (4261441663, 51), (4261441663, 1073741875), (4261441663, 4147), (4261441663, 8243), (4261441663, 12339), (4261441663, 16435), (4261441663, 20531), (4261441663, 1073762355), (4261441663, 24627), (4261441663, 28723), (28799, 27), (4261441663, 4123), (4261441663, 20507), (4261441663, 1073762331), (4261441663, 59), (4261441663, 1073741883), (4261441663, 4155), (4261441663, 20539), (4261441663, 1073762363), (28799, 15), (28799, 4111), (4294967295, 115), (4294967295, 1048691), (4261441663, 33554483), (4261441663, 33558579), (4261441663, 33562675), (4261441663, 33566771), (4261441663, 33570867), (4261441663, 33574963), (4261441663, 33579059), (4261441663, 33583155), (4261441663, 33554491), (4261441663, 33570875), (4261441663, 33574971), (4261441663, 33579067), (4261441663, 33583163), (4193284223, 268443695), (4160778367, 402661423), (4160778367, 134225967), (4160778367, 8239), (4160778367, 536879151), (4160778367, 1610620975), (4160778367, 1073750063), (4160778367, 2147491887), (4160778367, 2684362799), (4160778367, 3221233711), (4160778367, 3758104623), (4193284223, 268447791), (4160778367, 402665519), (4160778367, 134230063), (4160778367, 12335), (4160778367, 536883247), (4160778367, 1610625071), (4160778367, 1073754159), (4160778367, 2147495983), (4160778367, 2684366895), (4160778367, 3221237807), (4160778367, 3758108719), (28799, 4211), (28799, 8307), (28799, 12403), (28799, 20595), (28799, 24691), (28799, 28787), (4294967295, 807403635), (4294967295, 270532723), (4294967295, 273678451), (4261445631, 301990003)]
def tM (i : Nat) : Nat := (tabF.getD i (0, 0)).1
def tV (i : Nat) : Nat := (tabF.getD i (0, 0)).2
theorem tab_eq : ∀ i : Nat, i < 99 → fixM (i : Int) = (tM i : Int) ∧ fixV (i : Int) = (tV i : Int) ∧ tM i < 4294967296 ∧ tV i < 4294967296 := by decide +kernel
theorem tab_apart : ∀ i : Nat, i < 98 → ∀ j : Nat, j < 98 → i ≠ j → ((tV (i + 1) ^^^ tV (j + 1)) &&& tM (i + 1)) &&& tM (j + 1) ≠ 0 := by decide +kernel
theorem tab_in : ∀ i : Nat, i < 99 → anK (fixV (i : Int)) (fixM (i : Int)) = 0 := by decide +kernel
theorem bN {x : Nat} : (BitVec.ofInt 32 (x : Int)) = BitVec.ofNat 32 x := BitVec.ofInt_natCast ..
theorem wN {x : Nat} (h : x < 4294967296) : IntKind.u32.wrap (x : Int) = (x : Int) := by
  simp only [IntKind.wrap, IntKind.bits, IntKind.signed, Bool.false_and]
  simp; omega
theorem andN {x y : Nat} (h : x < 4294967296) (h2 : y < 4294967296) : andK (x : Int) (y : Int) = ((x &&& y : Nat) : Int) := by
  unfold andK
  rw [bN, bN, BitVec.toNat_and, BitVec.toNat_ofNat, BitVec.toNat_ofNat, Nat.mod_eq_of_lt (by omega), Nat.mod_eq_of_lt (by omega)]
  exact wN (Nat.lt_of_le_of_lt Nat.and_le_left h)
theorem xorN {x y : Nat} (h : x < 4294967296) (h2 : y < 4294967296) : xorK (x : Int) (y : Int) = ((x ^^^ y : Nat) : Int) := by
  unfold xorK
  rw [bN, bN, BitVec.toNat_xor, BitVec.toNat_ofNat, BitVec.toNat_ofNat, Nat.mod_eq_of_lt (by omega), Nat.mod_eq_of_lt (by omega)]
  exact wN (Nat.xor_lt_two_pow (n := 32) h h2)
theorem apart {a b : Int} (ha : 1 ≤ a ∧ a ≤ 98) (hb : 1 ≤ b ∧ b ≤ 98) (h : a ≠ b) : andK (andK (xorK (fixV a) (fixV b)) (fixM a)) (fixM b) ≠ 0 ∧ anK (fixV a) (fixM a) = 0 ∧ anK (fixV b) (fixM b) = 0 := by
  obtain ⟨i, rfl⟩ : ∃ i : Nat, a = ((i + 1 : Nat) : Int) := ⟨(a - 1).toNat, by omega⟩
  obtain ⟨j, rfl⟩ : ∃ j : Nat, b = ((j + 1 : Nat) : Int) := ⟨(b - 1).toNat, by omega⟩
  obtain ⟨a1, a2, a3, a4⟩ := tab_eq (i + 1) (by omega)
  obtain ⟨b1, b2, b3, b4⟩ := tab_eq (j + 1) (by omega)
  refine ⟨?_, tab_in _ (by omega), tab_in _ (by omega)⟩
  have k := tab_apart i (by omega) j (by omega) (by omega)
  have x1 := Nat.xor_lt_two_pow (n := 32) a4 b4
  have x2 : (tV (i + 1) ^^^ tV (j + 1)) &&& tM (i + 1) < 4294967296 := Nat.lt_of_le_of_lt Nat.and_le_left x1
  rw [a1, a2, b1, b2, xorN a4 b4, andN x1 a3, andN x2 b3]
  omega
theorem fix_out {a : Int} (h : a < 1 ∨ 98 < a) : fixM a = 0 ∧ fixV a = 0 := by
  have hf : fmtT a = 0 := by
    unfold fmtT
    repeat rw [if_neg (by omega)]
  have hc : codeT a = (0, 0, 0) := by
    unfold codeT
    rcases h with h | h
    · rw [if_pos (by omega)]; unfold plainT; repeat rw [if_neg (by omega)]
    · rw [if_neg (by omega), if_neg (by omega), if_neg (by omega)]; unfold lastT; repeat rw [if_neg (by omega)]
  unfold fixM fixV
  rw [hf, hc]
  decide
theorem w1 : immT 2 1049235#64 = 1 ∧ (cutU 1049235#64 7 5).toInt = 5 ∧ (cutU 1049235#64 15 5).toInt = 0 := by
  simp only [immT, signU, cutU, ofG_eqn]; decide +kernel
theorem f1 : findT 1049235 = 22 := by decide +kernel
theorem f0 : findT 0 = 0 := by decide +kernel
theorem d1 : decT 1049235 = inC 22 5 0 0 1 0 false false := by
  have e : BitVec.ofInt 64 1049235 = 1049235#64 := by decide
  have g : fmtT 22 = 2 := by decide
  unfold decT
  rw [f1, g, e]
  simp [decC, w1]
theorem d0 : decT 0 = inC 0 0 0 0 0 0 false false := by
  unfold decT
  rw [f0]
  rfl
theorem c1 : checkT (fmtT 3) 1 0 0 (-4) 0 false false = 0 := by decide +kernel
theorem l1 : layT 6 (BitVec.ofInt 64 (-4)) = 4292866048 := by
  simp only [layT, layC, cutU, ofG_eqn]; decide +kernel
theorem e1 : encT 3 1 0 0 (-4) 0 false false = 4292866287 := by
  have g : fmtT 3 = 6 := by decide
  unfold encT
  rw [c1, g, l1]
  decide +kernel
def s_live3 (args : List AV) : Option AV :=
  match args with
  | [] => some (.c (.b true))
  | _ => none
theorem s_live3_eq : s_live3 [] = some (.c (.b true)) := rfl
set_option maxRecDepth 100000 in
set_option maxHeartbeats 2000000 in
theorem ok_live3 : PuOk Try.prog 10 s_live3 := by
  refine pu_ok (tab := [(8, .pu s_idecode), (11, .pu s_iencode)]) hmix (TabOk.cons (e := .pu s_idecode) ok_idecode (TabOk.cons (e := .pu s_iencode) ok_iencode TabOk.nil)) Try.func10 rfl Try.results10 Try.ntmps10 (by kernel_rfl) (by kernel_rfl) ?_
  intro args v h
  unfold s_live3 at h
  split at h
  · simp only [Option.some.injEq] at h; subst h
    refine ⟨by simp only [List.length_cons, List.length_nil]; decide, rfl, rfl, ?_⟩
    (try simp (config := { maxSteps := 10000000 }) only [go_sem, List.reduceReplicate, BitVec.reduceOfInt, BitVec.reduceToNat, BitVec.reduceToInt, BitVec.reduceEq, BitVec.reduceLT, BitVec.reduceLE, BitVec.reduceAdd, BitVec.reduceSub, BitVec.reduceMul, BitVec.reduceUDiv, BitVec.reduceUMod, BitVec.reduceAnd, BitVec.reduceOr, BitVec.reduceXOr, BitVec.reduceNot, BitVec.reduceNeg, BitVec.reduceHShiftLeft, BitVec.reduceHShiftRight, Nat.reduceAdd, Nat.reduceMul, Nat.reduceSub, Nat.reduceBEq, Nat.reduceEqDiff, Nat.reduceLeDiff, Nat.reduceLT, Int.reduceLE, Int.reduceLT, Int.reduceAdd, Int.reduceSub, Int.reduceMul, Int.reduceNeg, Int.reduceToNat, Int.reduceEq, ↓reduceIte, reduceCtorEq, s_idecode_eq, s_iencode_eq, d1, d0, f0, f1, c1, e1, inC]; repeat (simp (disch := omega) only [w64_d, ipos, ineg, dpos, dneg]; try simp (config := { maxSteps := 10000000 }) only [go_sem, List.reduceReplicate, BitVec.reduceOfInt, BitVec.reduceToNat, BitVec.reduceToInt, BitVec.reduceEq, BitVec.reduceLT, BitVec.reduceLE, BitVec.reduceAdd, BitVec.reduceSub, BitVec.reduceMul, BitVec.reduceUDiv, BitVec.reduceUMod, BitVec.reduceAnd, BitVec.reduceOr, BitVec.reduceXOr, BitVec.reduceNot, BitVec.reduceNeg, BitVec.reduceHShiftLeft, BitVec.reduceHShiftRight, Nat.reduceAdd, Nat.reduceMul, Nat.reduceSub, Nat.reduceBEq, Nat.reduceEqDiff, Nat.reduceLeDiff, Nat.reduceLT, Int.reduceLE, Int.reduceLT, Int.reduceAdd, Int.reduceSub, Int.reduceMul, Int.reduceNeg, Int.reduceToNat, Int.reduceEq, ↓reduceIte, reduceCtorEq, s_idecode_eq, s_iencode_eq, d1, d0, f0, f1, c1, e1, inC]))
  · simp at h
def s_apart3 (args : List AV) : Option AV :=
  match args with
  | [.c (.i a), .c (.i b)] => if inR a ∧ inR b then some (.c (.b true)) else none
  | _ => none
theorem s_apart3_eq {a b} : s_apart3 [.c (.i a), .c (.i b)] = if inR a ∧ inR b then some (.c (.b true)) else none := rfl
set_option maxRecDepth 100000 in
set_option maxHeartbeats 2000000 in
theorem ok_apart3 : PuOk Try.prog 7 s_apart3 := by
  refine pu_ok (tab := [(21, .pu s_ifixed), (10, .pu s_live3)]) hmix (TabOk.cons (e := .pu s_ifixed) ok_ifixed (TabOk.cons (e := .pu s_live3) ok_live3 TabOk.nil)) Try.func7 rfl Try.results7 Try.ntmps7 (by kernel_rfl) (by kernel_rfl) ?_
  intro args v h
  unfold s_apart3 at h
  split at h
  · rename_i a b
    split at h
    · rename_i hc
      simp only [Option.some.injEq] at h; subst h
      refine ⟨by simp only [List.length_cons, List.length_nil]; decide, rfl, rfl, ?_⟩
      by_cases h1 : a < 1
      · obtain ⟨z1, z2⟩ := fix_out (.inl h1)
        (try simp (config := { maxSteps := 10000000 }) only [go_sem, List.reduceReplicate, BitVec.reduceOfInt, BitVec.reduceToNat, BitVec.reduceToInt, BitVec.reduceEq, BitVec.reduceLT, BitVec.reduceLE, BitVec.reduceAdd, BitVec.reduceSub, BitVec.reduceMul, BitVec.reduceUDiv, BitVec.reduceUMod, BitVec.reduceAnd, BitVec.reduceOr, BitVec.reduceXOr, BitVec.reduceNot, BitVec.reduceNeg, BitVec.reduceHShiftLeft, BitVec.reduceHShiftRight, Nat.reduceAdd, Nat.reduceMul, Nat.reduceSub, Nat.reduceBEq, Nat.reduceEqDiff, Nat.reduceLeDiff, Nat.reduceLT, Int.reduceLE, Int.reduceLT, Int.reduceAdd, Int.reduceSub, Int.reduceMul, Int.reduceNeg, Int.reduceToNat, Int.reduceEq, ↓reduceIte, reduceCtorEq, s_ifixed_eq, s_live3_eq, h1, z1, z2]; repeat (simp (disch := omega) only [w64_d, ipos, ineg, dpos, dneg]; try simp (config := { maxSteps := 10000000 }) only [go_sem, List.reduceReplicate, BitVec.reduceOfInt, BitVec.reduceToNat, BitVec.reduceToInt, BitVec.reduceEq, BitVec.reduceLT, BitVec.reduceLE, BitVec.reduceAdd, BitVec.reduceSub, BitVec.reduceMul, BitVec.reduceUDiv, BitVec.reduceUMod, BitVec.reduceAnd, BitVec.reduceOr, BitVec.reduceXOr, BitVec.reduceNot, BitVec.reduceNeg, BitVec.reduceHShiftLeft, BitVec.reduceHShiftRight, Nat.reduceAdd, Nat.reduceMul, Nat.reduceSub, Nat.reduceBEq, Nat.reduceEqDiff, Nat.reduceLeDiff, Nat.reduceLT, Int.reduceLE, Int.reduceLT, Int.reduceAdd, Int.reduceSub, Int.reduceMul, Int.reduceNeg, Int.reduceToNat, Int.reduceEq, ↓reduceIte, reduceCtorEq, s_ifixed_eq, s_live3_eq, h1, z1, z2]))
      by_cases h2 : 98 < a
      · obtain ⟨z1, z2⟩ := fix_out (.inr h2)
        (try simp (config := { maxSteps := 10000000 }) only [go_sem, List.reduceReplicate, BitVec.reduceOfInt, BitVec.reduceToNat, BitVec.reduceToInt, BitVec.reduceEq, BitVec.reduceLT, BitVec.reduceLE, BitVec.reduceAdd, BitVec.reduceSub, BitVec.reduceMul, BitVec.reduceUDiv, BitVec.reduceUMod, BitVec.reduceAnd, BitVec.reduceOr, BitVec.reduceXOr, BitVec.reduceNot, BitVec.reduceNeg, BitVec.reduceHShiftLeft, BitVec.reduceHShiftRight, Nat.reduceAdd, Nat.reduceMul, Nat.reduceSub, Nat.reduceBEq, Nat.reduceEqDiff, Nat.reduceLeDiff, Nat.reduceLT, Int.reduceLE, Int.reduceLT, Int.reduceAdd, Int.reduceSub, Int.reduceMul, Int.reduceNeg, Int.reduceToNat, Int.reduceEq, ↓reduceIte, reduceCtorEq, s_ifixed_eq, s_live3_eq, h1, h2, z1, z2]; repeat (simp (disch := omega) only [w64_d, ipos, ineg, dpos, dneg]; try simp (config := { maxSteps := 10000000 }) only [go_sem, List.reduceReplicate, BitVec.reduceOfInt, BitVec.reduceToNat, BitVec.reduceToInt, BitVec.reduceEq, BitVec.reduceLT, BitVec.reduceLE, BitVec.reduceAdd, BitVec.reduceSub, BitVec.reduceMul, BitVec.reduceUDiv, BitVec.reduceUMod, BitVec.reduceAnd, BitVec.reduceOr, BitVec.reduceXOr, BitVec.reduceNot, BitVec.reduceNeg, BitVec.reduceHShiftLeft, BitVec.reduceHShiftRight, Nat.reduceAdd, Nat.reduceMul, Nat.reduceSub, Nat.reduceBEq, Nat.reduceEqDiff, Nat.reduceLeDiff, Nat.reduceLT, Int.reduceLE, Int.reduceLT, Int.reduceAdd, Int.reduceSub, Int.reduceMul, Int.reduceNeg, Int.reduceToNat, Int.reduceEq, ↓reduceIte, reduceCtorEq, s_ifixed_eq, s_live3_eq, h1, h2, z1, z2]))
      by_cases h3 : b < 1
      · (try simp (config := { maxSteps := 10000000 }) only [go_sem, List.reduceReplicate, BitVec.reduceOfInt, BitVec.reduceToNat, BitVec.reduceToInt, BitVec.reduceEq, BitVec.reduceLT, BitVec.reduceLE, BitVec.reduceAdd, BitVec.reduceSub, BitVec.reduceMul, BitVec.reduceUDiv, BitVec.reduceUMod, BitVec.reduceAnd, BitVec.reduceOr, BitVec.reduceXOr, BitVec.reduceNot, BitVec.reduceNeg, BitVec.reduceHShiftLeft, BitVec.reduceHShiftRight, Nat.reduceAdd, Nat.reduceMul, Nat.reduceSub, Nat.reduceBEq, Nat.reduceEqDiff, Nat.reduceLeDiff, Nat.reduceLT, Int.reduceLE, Int.reduceLT, Int.reduceAdd, Int.reduceSub, Int.reduceMul, Int.reduceNeg, Int.reduceToNat, Int.reduceEq, ↓reduceIte, reduceCtorEq, s_ifixed_eq, s_live3_eq, h1, h2, h3]; repeat (simp (disch := omega) only [w64_d, ipos, ineg, dpos, dneg]; try simp (config := { maxSteps := 10000000 }) only [go_sem, List.reduceReplicate, BitVec.reduceOfInt, BitVec.reduceToNat, BitVec.reduceToInt, BitVec.reduceEq, BitVec.reduceLT, BitVec.reduceLE, BitVec.reduceAdd, BitVec.reduceSub, BitVec.reduceMul, BitVec.reduceUDiv, BitVec.reduceUMod, BitVec.reduceAnd, BitVec.reduceOr, BitVec.reduceXOr, BitVec.reduceNot, BitVec.reduceNeg, BitVec.reduceHShiftLeft, BitVec.reduceHShiftRight, Nat.reduceAdd, Nat.reduceMul, Nat.reduceSub, Nat.reduceBEq, Nat.reduceEqDiff, Nat.reduceLeDiff, Nat.reduceLT, Int.reduceLE, Int.reduceLT, Int.reduceAdd, Int.reduceSub, Int.reduceMul, Int.reduceNeg, Int.reduceToNat, Int.reduceEq, ↓reduceIte, reduceCtorEq, s_ifixed_eq, s_live3_eq, h1, h2, h3]))
      by_cases h4 : 98 < b
      · (try simp (config := { maxSteps := 10000000 }) only [go_sem, List.reduceReplicate, BitVec.reduceOfInt, BitVec.reduceToNat, BitVec.reduceToInt, BitVec.reduceEq, BitVec.reduceLT, BitVec.reduceLE, BitVec.reduceAdd, BitVec.reduceSub, BitVec.reduceMul, BitVec.reduceUDiv, BitVec.reduceUMod, BitVec.reduceAnd, BitVec.reduceOr, BitVec.reduceXOr, BitVec.reduceNot, BitVec.reduceNeg, BitVec.reduceHShiftLeft, BitVec.reduceHShiftRight, Nat.reduceAdd, Nat.reduceMul, Nat.reduceSub, Nat.reduceBEq, Nat.reduceEqDiff, Nat.reduceLeDiff, Nat.reduceLT, Int.reduceLE, Int.reduceLT, Int.reduceAdd, Int.reduceSub, Int.reduceMul, Int.reduceNeg, Int.reduceToNat, Int.reduceEq, ↓reduceIte, reduceCtorEq, s_ifixed_eq, s_live3_eq, h1, h2, h3, h4]; repeat (simp (disch := omega) only [w64_d, ipos, ineg, dpos, dneg]; try simp (config := { maxSteps := 10000000 }) only [go_sem, List.reduceReplicate, BitVec.reduceOfInt, BitVec.reduceToNat, BitVec.reduceToInt, BitVec.reduceEq, BitVec.reduceLT, BitVec.reduceLE, BitVec.reduceAdd, BitVec.reduceSub, BitVec.reduceMul, BitVec.reduceUDiv, BitVec.reduceUMod, BitVec.reduceAnd, BitVec.reduceOr, BitVec.reduceXOr, BitVec.reduceNot, BitVec.reduceNeg, BitVec.reduceHShiftLeft, BitVec.reduceHShiftRight, Nat.reduceAdd, Nat.reduceMul, Nat.reduceSub, Nat.reduceBEq, Nat.reduceEqDiff, Nat.reduceLeDiff, Nat.reduceLT, Int.reduceLE, Int.reduceLT, Int.reduceAdd, Int.reduceSub, Int.reduceMul, Int.reduceNeg, Int.reduceToNat, Int.reduceEq, ↓reduceIte, reduceCtorEq, s_ifixed_eq, s_live3_eq, h1, h2, h3, h4]))
      by_cases h5 : a = b
      · (try simp (config := { maxSteps := 10000000 }) only [go_sem, List.reduceReplicate, BitVec.reduceOfInt, BitVec.reduceToNat, BitVec.reduceToInt, BitVec.reduceEq, BitVec.reduceLT, BitVec.reduceLE, BitVec.reduceAdd, BitVec.reduceSub, BitVec.reduceMul, BitVec.reduceUDiv, BitVec.reduceUMod, BitVec.reduceAnd, BitVec.reduceOr, BitVec.reduceXOr, BitVec.reduceNot, BitVec.reduceNeg, BitVec.reduceHShiftLeft, BitVec.reduceHShiftRight, Nat.reduceAdd, Nat.reduceMul, Nat.reduceSub, Nat.reduceBEq, Nat.reduceEqDiff, Nat.reduceLeDiff, Nat.reduceLT, Int.reduceLE, Int.reduceLT, Int.reduceAdd, Int.reduceSub, Int.reduceMul, Int.reduceNeg, Int.reduceToNat, Int.reduceEq, ↓reduceIte, reduceCtorEq, s_ifixed_eq, s_live3_eq, h1, h2, h3, h4, h5]; repeat (simp (disch := omega) only [w64_d, ipos, ineg, dpos, dneg]; try simp (config := { maxSteps := 10000000 }) only [go_sem, List.reduceReplicate, BitVec.reduceOfInt, BitVec.reduceToNat, BitVec.reduceToInt, BitVec.reduceEq, BitVec.reduceLT, BitVec.reduceLE, BitVec.reduceAdd, BitVec.reduceSub, BitVec.reduceMul, BitVec.reduceUDiv, BitVec.reduceUMod, BitVec.reduceAnd, BitVec.reduceOr, BitVec.reduceXOr, BitVec.reduceNot, BitVec.reduceNeg, BitVec.reduceHShiftLeft, BitVec.reduceHShiftRight, Nat.reduceAdd, Nat.reduceMul, Nat.reduceSub, Nat.reduceBEq, Nat.reduceEqDiff, Nat.reduceLeDiff, Nat.reduceLT, Int.reduceLE, Int.reduceLT, Int.reduceAdd, Int.reduceSub, Int.reduceMul, Int.reduceNeg, Int.reduceToNat, Int.reduceEq, ↓reduceIte, reduceCtorEq, s_ifixed_eq, s_live3_eq, h1, h2, h3, h4, h5]))
      obtain ⟨k1, k2, k3⟩ := apart (by omega) (by omega) h5
      (try simp (config := { maxSteps := 10000000 }) only [go_sem, List.reduceReplicate, BitVec.reduceOfInt, BitVec.reduceToNat, BitVec.reduceToInt, BitVec.reduceEq, BitVec.reduceLT, BitVec.reduceLE, BitVec.reduceAdd, BitVec.reduceSub, BitVec.reduceMul, BitVec.reduceUDiv, BitVec.reduceUMod, BitVec.reduceAnd, BitVec.reduceOr, BitVec.reduceXOr, BitVec.reduceNot, BitVec.reduceNeg, BitVec.reduceHShiftLeft, BitVec.reduceHShiftRight, Nat.reduceAdd, Nat.reduceMul, Nat.reduceSub, Nat.reduceBEq, Nat.reduceEqDiff, Nat.reduceLeDiff, Nat.reduceLT, Int.reduceLE, Int.reduceLT, Int.reduceAdd, Int.reduceSub, Int.reduceMul, Int.reduceNeg, Int.reduceToNat, Int.reduceEq, ↓reduceIte, reduceCtorEq, s_ifixed_eq, s_live3_eq, h1, h2, h3, h4, h5, k1, k2, k3]; repeat (simp (disch := omega) only [w64_d, ipos, ineg, dpos, dneg]; try simp (config := { maxSteps := 10000000 }) only [go_sem, List.reduceReplicate, BitVec.reduceOfInt, BitVec.reduceToNat, BitVec.reduceToInt, BitVec.reduceEq, BitVec.reduceLT, BitVec.reduceLE, BitVec.reduceAdd, BitVec.reduceSub, BitVec.reduceMul, BitVec.reduceUDiv, BitVec.reduceUMod, BitVec.reduceAnd, BitVec.reduceOr, BitVec.reduceXOr, BitVec.reduceNot, BitVec.reduceNeg, BitVec.reduceHShiftLeft, BitVec.reduceHShiftRight, Nat.reduceAdd, Nat.reduceMul, Nat.reduceSub, Nat.reduceBEq, Nat.reduceEqDiff, Nat.reduceLeDiff, Nat.reduceLT, Int.reduceLE, Int.reduceLT, Int.reduceAdd, Int.reduceSub, Int.reduceMul, Int.reduceNeg, Int.reduceToNat, Int.reduceEq, ↓reduceIte, reduceCtorEq, s_ifixed_eq, s_live3_eq, h1, h2, h3, h4, h5, k1, k2, k3]))
    · simp at h
  · simp at h
end
end Go.Proofs.Ytcfnfdafcfpohaa
