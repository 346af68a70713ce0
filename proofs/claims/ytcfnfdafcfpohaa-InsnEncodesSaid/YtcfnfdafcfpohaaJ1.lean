/- Layer 3: the reference: formats by their names, where numbers stand (printed by gj1.py): contracts. -/
import Derived.Test.YtcfnfdafcfpohaaR2
import Derived.Test.YtcfnfdafcfpohaaI13
namespace Go.Proofs.Ytcfnfdafcfpohaa
open Go.Am
set_option linter.unusedSimpArgs false
set_option linter.unusedVariables false
noncomputable section

/-- the formats' names, by their numbers -/
def fnB : List (List UInt8) := [[], [82], [73], [83], [66], [85], [74], [83, 104, 105, 102, 116], [83, 104, 105, 102, 116, 87], [67, 115, 114], [67, 115, 114, 73], [65], [76, 114], [66, 97, 114, 101], [83, 102, 101, 110, 99, 101]]
def fn (k : Nat) : ByteArray := ⟨(fnB.getD k []).toArray⟩
def fnL : List Sc := fnB.map fun l => .s ⟨l.toArray⟩
theorem fnL_len : fnL.length = 15 := rfl
theorem fnL_get {k : Nat} (h : k < 15) : fnL.getD k .any = .s (fn k) := by
  unfold fnL fn
  rw [List.getD_eq_getElem?_getD, List.getElem?_map, List.getD_eq_getElem?_getD, List.getElem?_eq_getElem (show k < fnB.length from h)]
  rfl
theorem fn_ne : ∀ i : Nat, i < 15 → ∀ j : Nat, j < 15 → decide (fn i = fn j) = decide (i = j) := by decide +kernel
theorem fn_eq {i j : Nat} (hi : i < 15) (hj : j < 15) : (fn i = fn j) = (i = j) := by
  have := fn_ne i hi j hj
  exact propext (decide_eq_decide.1 this)
/-- a name's number -/
def nmF (s : ByteArray) : Nat := fstN (fun i => decide (fn i = s)) 15
theorem nmF_fn {f : Nat} (h : f < 15) : nmF (fn f) = f := by
  have a : nmF (fn f) ≤ f := by
    rcases Nat.lt_or_ge f (nmF (fn f)) with h1 | h1
    · have := fstN_not (p := fun i => decide (fn i = fn f)) h1
      simp at this
    · exact h1
  have b := fstN_hit (p := fun i => decide (fn i = fn f)) (n := 15) (show nmF (fn f) < 15 by omega)
  change decide (fn (nmF (fn f)) = fn f) = true at b
  rw [decide_eq_true_eq, fn_eq (by omega) h] at b
  exact b
theorem nmF_inv {s : ByteArray} (h : nmF s < 15) : s = fn (nmF s) := by
  have b := fstN_hit (p := fun i => decide (fn i = s)) (n := 15) h
  change decide (fn (nmF s) = s) = true at b
  rw [decide_eq_true_eq] at b
  exact b.symm
def s_rnames (args : List AV) (H : AH) : Option (AV × AH) :=
  match args with
  | [] => some (.c (.sl H.length 0 15 15), H ++ [.vec 1 fnL])
  | _ => none
theorem s_rnames_eq {H : AH} : s_rnames [] H = some (.c (.sl H.length 0 15 15), H ++ [.vec 1 fnL]) := rfl
theorem len_rnames (args : List AV) (H : AH) (v : AV) (H1 : AH) (h : s_rnames args H = some (v, H1)) : H.length ≤ H1.length := by
  unfold s_rnames at h
  split at h
  · simp only [Option.some.injEq, Prod.mk.injEq] at h; rw [← h.2]; simp
  · simp at h
theorem fin_same {n : Nat} {v : AV} {H : AH} : ∃ v', some v = some v' ∧ Wk n [(0, v')] H ([(0, v)], H) :=
  ⟨_, rfl, fun ρ _ _ h1 h2 => ⟨ρ, h1, h2, fun i _ hi hL _ => ⟨i, hi, hL⟩, fun _ _ => rfl⟩⟩
theorem get_cases (fr : Fr) (s : Nat) : Am.get fr s = .c .any ∨ ∃ p ∈ fr, p.1 = s ∧ Am.get fr s = p.2 := by
  induction fr with
  | nil => exact .inl rfl
  | cons a r ih =>
    obtain ⟨d, v⟩ := a
    by_cases h : d = s
    · exact .inr ⟨(d, v), by simp, h, by simp [Am.get, h]⟩
    · have e : Am.get ((d, v) :: r) s = Am.get r s := by simp [Am.get, h]
      rw [e]
      rcases ih with h1 | ⟨p, h1, h2, h3⟩
      · exact .inl h1
      · exact .inr ⟨p, by simp [h1], h2, h3⟩
theorem Wk.fr {n : Nat} {fr fr' : Fr} {H : AH} (hf : ∀ p ∈ fr', Am.get fr p.1 = p.2) : Wk n fr H (fr', H) := fun ρ w tm h1 h2 =>
  ⟨ρ, fun s => by
    show VRel ρ (Am.get fr' s) (tm s)
    rcases get_cases fr' s with e | ⟨p, hp, rfl, e⟩
    · rw [e]; exact trivial
    · rw [e, ← hf p hp]; exact h1 p.1, h2, fun i _ hi hL _ => ⟨i, hi, hL⟩, fun _ _ => rfl⟩
set_option maxRecDepth 100000 in
set_option maxHeartbeats 2000000 in
theorem ok_rnames : FpOk Try.prog 15 s_rnames := by
  refine fp_ok (s := s_rnames) (tab := []) hmix TabOk.nil Try.func15 rfl Try.results15 Try.ntmps15 (by kernel_rfl) (by kernel_rfl) len_rnames ?_
  intro args H v H1 h hargs hH
  unfold s_rnames at h
  split at h
  · simp only [Option.some.injEq, Prod.mk.injEq] at h
    obtain ⟨rfl, rfl⟩ := h
    refine ⟨by decide, ?_⟩
    (try simp (config := { maxSteps := 10000000 }) only [go_sem, List.reduceReplicate, BitVec.reduceOfInt, BitVec.reduceToNat, BitVec.reduceToInt, BitVec.reduceEq, BitVec.reduceLT, BitVec.reduceLE, BitVec.reduceAdd, BitVec.reduceSub, BitVec.reduceMul, BitVec.reduceUDiv, BitVec.reduceUMod, BitVec.reduceAnd, BitVec.reduceOr, BitVec.reduceXOr, BitVec.reduceNot, BitVec.reduceNeg, BitVec.reduceHShiftLeft, BitVec.reduceHShiftRight, Nat.reduceAdd, Nat.reduceMul, Nat.reduceSub, Nat.reduceBEq, Nat.reduceEqDiff, Nat.reduceLeDiff, Nat.reduceLT, Int.reduceLE, Int.reduceLT, Int.reduceAdd, Int.reduceSub, Int.reduceMul, Int.reduceNeg, Int.reduceToNat, Int.reduceEq, ↓reduceIte, reduceCtorEq]; repeat (simp (disch := omega) only [w64_d, ipos, ineg, dpos, dneg]; try simp (config := { maxSteps := 10000000 }) only [go_sem, List.reduceReplicate, BitVec.reduceOfInt, BitVec.reduceToNat, BitVec.reduceToInt, BitVec.reduceEq, BitVec.reduceLT, BitVec.reduceLE, BitVec.reduceAdd, BitVec.reduceSub, BitVec.reduceMul, BitVec.reduceUDiv, BitVec.reduceUMod, BitVec.reduceAnd, BitVec.reduceOr, BitVec.reduceXOr, BitVec.reduceNot, BitVec.reduceNeg, BitVec.reduceHShiftLeft, BitVec.reduceHShiftRight, Nat.reduceAdd, Nat.reduceMul, Nat.reduceSub, Nat.reduceBEq, Nat.reduceEqDiff, Nat.reduceLeDiff, Nat.reduceLT, Int.reduceLE, Int.reduceLT, Int.reduceAdd, Int.reduceSub, Int.reduceMul, Int.reduceNeg, Int.reduceToNat, Int.reduceEq, ↓reduceIte, reduceCtorEq]))
    exact fin_same
  · simp at h
def numT (s : ByteArray) : Int := if nmF s < 15 then nmF s else 0
def s_rnumber (args : List AV) : Option AV :=
  match args with
  | [.c (.s s)] => some (.c (.i (numT s)))
  | _ => none
theorem s_rnumber_eq {s} : s_rnumber [.c (.s s)] = some (.c (.i (numT s))) := rfl
set_option maxRecDepth 100000 in
set_option maxHeartbeats 2000000 in
theorem ok_rnumber : PuOk Try.prog 23 s_rnumber := by
  refine pu_ok (tab := [(15, .fp s_rnames)]) hmix (TabOk.cons (e := .fp s_rnames) ok_rnames TabOk.nil) Try.func23 rfl Try.results23 Try.ntmps23 (by kernel_rfl) (by kernel_rfl) ?_
  intro args v h
  unfold s_rnumber at h
  split at h
  · rename_i s
    simp only [Option.some.injEq] at h; subst h
    refine ⟨by simp only [List.length_cons, List.length_nil]; decide, rfl, rfl, ?_⟩
    (try simp (config := { maxSteps := 10000000 }) only [go_sem, List.reduceReplicate, BitVec.reduceOfInt, BitVec.reduceToNat, BitVec.reduceToInt, BitVec.reduceEq, BitVec.reduceLT, BitVec.reduceLE, BitVec.reduceAdd, BitVec.reduceSub, BitVec.reduceMul, BitVec.reduceUDiv, BitVec.reduceUMod, BitVec.reduceAnd, BitVec.reduceOr, BitVec.reduceXOr, BitVec.reduceNot, BitVec.reduceNeg, BitVec.reduceHShiftLeft, BitVec.reduceHShiftRight, Nat.reduceAdd, Nat.reduceMul, Nat.reduceSub, Nat.reduceBEq, Nat.reduceEqDiff, Nat.reduceLeDiff, Nat.reduceLT, Int.reduceLE, Int.reduceLT, Int.reduceAdd, Int.reduceSub, Int.reduceMul, Int.reduceNeg, Int.reduceToNat, Int.reduceEq, ↓reduceIte, reduceCtorEq, s_rnames_eq]; repeat (simp (disch := omega) only [w64_d, ipos, ineg, dpos, dneg]; try simp (config := { maxSteps := 10000000 }) only [go_sem, List.reduceReplicate, BitVec.reduceOfInt, BitVec.reduceToNat, BitVec.reduceToInt, BitVec.reduceEq, BitVec.reduceLT, BitVec.reduceLE, BitVec.reduceAdd, BitVec.reduceSub, BitVec.reduceMul, BitVec.reduceUDiv, BitVec.reduceUMod, BitVec.reduceAnd, BitVec.reduceOr, BitVec.reduceXOr, BitVec.reduceNot, BitVec.reduceNeg, BitVec.reduceHShiftLeft, BitVec.reduceHShiftRight, Nat.reduceAdd, Nat.reduceMul, Nat.reduceSub, Nat.reduceBEq, Nat.reduceEqDiff, Nat.reduceLeDiff, Nat.reduceLT, Int.reduceLE, Int.reduceLT, Int.reduceAdd, Int.reduceSub, Int.reduceMul, Int.reduceNeg, Int.reduceToNat, Int.reduceEq, ↓reduceIte, reduceCtorEq, s_rnames_eq]))
    have fle := fstN_le (fun i => decide (fn i = s)) 15
    change nmF s ≤ 15 at fle
    refine arun_for (nmF s) (fun k => ([(0, .c (.s s)), (2, .c (.i 0)), (3, .c (.sl 0 0 15 15)), (4, .c (.i k))], [.vec 1 fnL])) (Wk.fr (by simp [Am.get])) fun k hk => ?_
    have k0 : (0 : Int) ≤ (k : Int) := by omega
    have e1 : w64 ((k : Int) + 1) = ((k + 1 : Nat) : Int) := by rw [w64_of (by omega)]; omega
    by_cases hlt : k < 15
    rotate_left
    · obtain rfl : k = 15 := by omega
      have e : nmF s = 15 := by omega
      (try simp (config := { maxSteps := 10000000 }) only [go_sem, List.reduceReplicate, BitVec.reduceOfInt, BitVec.reduceToNat, BitVec.reduceToInt, BitVec.reduceEq, BitVec.reduceLT, BitVec.reduceLE, BitVec.reduceAdd, BitVec.reduceSub, BitVec.reduceMul, BitVec.reduceUDiv, BitVec.reduceUMod, BitVec.reduceAnd, BitVec.reduceOr, BitVec.reduceXOr, BitVec.reduceNot, BitVec.reduceNeg, BitVec.reduceHShiftLeft, BitVec.reduceHShiftRight, Nat.reduceAdd, Nat.reduceMul, Nat.reduceSub, Nat.reduceBEq, Nat.reduceEqDiff, Nat.reduceLeDiff, Nat.reduceLT, Int.reduceLE, Int.reduceLT, Int.reduceAdd, Int.reduceSub, Int.reduceMul, Int.reduceNeg, Int.reduceToNat, Int.reduceEq, ↓reduceIte, reduceCtorEq, numT, e]; repeat (simp (disch := omega) only [w64_d, ipos, ineg, dpos, dneg]; try simp (config := { maxSteps := 10000000 }) only [go_sem, List.reduceReplicate, BitVec.reduceOfInt, BitVec.reduceToNat, BitVec.reduceToInt, BitVec.reduceEq, BitVec.reduceLT, BitVec.reduceLE, BitVec.reduceAdd, BitVec.reduceSub, BitVec.reduceMul, BitVec.reduceUDiv, BitVec.reduceUMod, BitVec.reduceAnd, BitVec.reduceOr, BitVec.reduceXOr, BitVec.reduceNot, BitVec.reduceNeg, BitVec.reduceHShiftLeft, BitVec.reduceHShiftRight, Nat.reduceAdd, Nat.reduceMul, Nat.reduceSub, Nat.reduceBEq, Nat.reduceEqDiff, Nat.reduceLeDiff, Nat.reduceLT, Int.reduceLE, Int.reduceLT, Int.reduceAdd, Int.reduceSub, Int.reduceMul, Int.reduceNeg, Int.reduceToNat, Int.reduceEq, ↓reduceIte, reduceCtorEq, numT, e]))
    have kI : (k : Int) < 15 := by omega
    have g1 := fnL_get hlt
    have kl : k + 1 ≤ 15 := by omega
    by_cases he : k = nmF s
    · have ee : fn k = s := by rw [he]; exact (nmF_inv (by omega)).symm
      have ne : numT s = (k : Int) := by unfold numT; rw [if_pos (by omega)]; omega
      (try simp (config := { maxSteps := 10000000 }) only [go_sem, List.reduceReplicate, BitVec.reduceOfInt, BitVec.reduceToNat, BitVec.reduceToInt, BitVec.reduceEq, BitVec.reduceLT, BitVec.reduceLE, BitVec.reduceAdd, BitVec.reduceSub, BitVec.reduceMul, BitVec.reduceUDiv, BitVec.reduceUMod, BitVec.reduceAnd, BitVec.reduceOr, BitVec.reduceXOr, BitVec.reduceNot, BitVec.reduceNeg, BitVec.reduceHShiftLeft, BitVec.reduceHShiftRight, Nat.reduceAdd, Nat.reduceMul, Nat.reduceSub, Nat.reduceBEq, Nat.reduceEqDiff, Nat.reduceLeDiff, Nat.reduceLT, Int.reduceLE, Int.reduceLT, Int.reduceAdd, Int.reduceSub, Int.reduceMul, Int.reduceNeg, Int.reduceToNat, Int.reduceEq, ↓reduceIte, reduceCtorEq, e1, k0, kI, g1, fnL_len, kl, ee, ne]; repeat (simp (disch := omega) only [w64_d, ipos, ineg, dpos, dneg]; try simp (config := { maxSteps := 10000000 }) only [go_sem, List.reduceReplicate, BitVec.reduceOfInt, BitVec.reduceToNat, BitVec.reduceToInt, BitVec.reduceEq, BitVec.reduceLT, BitVec.reduceLE, BitVec.reduceAdd, BitVec.reduceSub, BitVec.reduceMul, BitVec.reduceUDiv, BitVec.reduceUMod, BitVec.reduceAnd, BitVec.reduceOr, BitVec.reduceXOr, BitVec.reduceNot, BitVec.reduceNeg, BitVec.reduceHShiftLeft, BitVec.reduceHShiftRight, Nat.reduceAdd, Nat.reduceMul, Nat.reduceSub, Nat.reduceBEq, Nat.reduceEqDiff, Nat.reduceLeDiff, Nat.reduceLT, Int.reduceLE, Int.reduceLT, Int.reduceAdd, Int.reduceSub, Int.reduceMul, Int.reduceNeg, Int.reduceToNat, Int.reduceEq, ↓reduceIte, reduceCtorEq, e1, k0, kI, g1, fnL_len, kl, ee, ne]))
    · have ee : (fn k = s) = False := by
        have := fstN_not (p := fun i => decide (fn i = s)) (n := 15) (k := k) (show k < nmF s by omega)
        simpa using this
      (try simp (config := { maxSteps := 10000000 }) only [go_sem, List.reduceReplicate, BitVec.reduceOfInt, BitVec.reduceToNat, BitVec.reduceToInt, BitVec.reduceEq, BitVec.reduceLT, BitVec.reduceLE, BitVec.reduceAdd, BitVec.reduceSub, BitVec.reduceMul, BitVec.reduceUDiv, BitVec.reduceUMod, BitVec.reduceAnd, BitVec.reduceOr, BitVec.reduceXOr, BitVec.reduceNot, BitVec.reduceNeg, BitVec.reduceHShiftLeft, BitVec.reduceHShiftRight, Nat.reduceAdd, Nat.reduceMul, Nat.reduceSub, Nat.reduceBEq, Nat.reduceEqDiff, Nat.reduceLeDiff, Nat.reduceLT, Int.reduceLE, Int.reduceLT, Int.reduceAdd, Int.reduceSub, Int.reduceMul, Int.reduceNeg, Int.reduceToNat, Int.reduceEq, ↓reduceIte, reduceCtorEq, e1, k0, kI, g1, fnL_len, kl, ee]; repeat (simp (disch := omega) only [w64_d, ipos, ineg, dpos, dneg]; try simp (config := { maxSteps := 10000000 }) only [go_sem, List.reduceReplicate, BitVec.reduceOfInt, BitVec.reduceToNat, BitVec.reduceToInt, BitVec.reduceEq, BitVec.reduceLT, BitVec.reduceLE, BitVec.reduceAdd, BitVec.reduceSub, BitVec.reduceMul, BitVec.reduceUDiv, BitVec.reduceUMod, BitVec.reduceAnd, BitVec.reduceOr, BitVec.reduceXOr, BitVec.reduceNot, BitVec.reduceNeg, BitVec.reduceHShiftLeft, BitVec.reduceHShiftRight, Nat.reduceAdd, Nat.reduceMul, Nat.reduceSub, Nat.reduceBEq, Nat.reduceEqDiff, Nat.reduceLeDiff, Nat.reduceLT, Int.reduceLE, Int.reduceLT, Int.reduceAdd, Int.reduceSub, Int.reduceMul, Int.reduceNeg, Int.reduceToNat, Int.reduceEq, ↓reduceIte, reduceCtorEq, e1, k0, kI, g1, fnL_len, kl, ee]))
      exact ⟨k + 1, by omega, by omega, Wk.fr (by simp [Am.get])⟩
  · simp at h
end
end Go.Proofs.Ytcfnfdafcfpohaa
