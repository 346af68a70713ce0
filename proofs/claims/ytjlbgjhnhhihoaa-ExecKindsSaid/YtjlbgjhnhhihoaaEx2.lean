/- Layer 30: what an instruction does, by its registers: contracts; the law of what lands. -/
import Derived.Test.YtjlbgjhnhhihoaaEx1
namespace Go.Proofs.Ytjlbgjhnhhihoaa
open Go.Am
set_option linter.unusedSimpArgs false
set_option linter.unusedVariables false
noncomputable section

def wordsL : List Sc → Option (List (BitVec 64))
  | [] => some []
  | .u x :: r => (wordsL r).map (x :: ·)
  | _ => none
theorem wordsL_map (W : List (BitVec 64)) : wordsL (W.map Sc.u) = some W := by
  induction W with
  | nil => rfl
  | cons x W ih => simp [wordsL, ih]
theorem wordsL_inv : ∀ {cs : List Sc} {W : List (BitVec 64)}, wordsL cs = some W → cs = W.map Sc.u
  | [], W, h => by simp [wordsL] at h; subst h; rfl
  | .u x :: r, W, h => by
    simp only [wordsL, Option.map_eq_some_iff] at h
    obtain ⟨V, h1, rfl⟩ := h
    rw [wordsL_inv h1]; rfl
  | .i _ :: _, W, h => by simp [wordsL] at h
  | .k _ _ :: _, W, h => by simp [wordsL] at h
  | .b _ :: _, W, h => by simp [wordsL] at h
  | .qq :: _, W, h => by simp [wordsL] at h
  | .s _ :: _, W, h => by simp [wordsL] at h
  | .nilp :: _, W, h => by simp [wordsL] at h
  | .p _ _ _ :: _, W, h => by simp [wordsL] at h
  | .nils :: _, W, h => by simp [wordsL] at h
  | .sl _ _ _ _ :: _, W, h => by simp [wordsL] at h
  | .f _ _ :: _, W, h => by simp [wordsL] at h
  | .nilf :: _, W, h => by simp [wordsL] at h
  | .und :: _, W, h => by simp [wordsL] at h
  | .junk :: _, W, h => by simp [wordsL] at h
  | .any :: _, W, h => by simp [wordsL] at h
def rgW (W : List (BitVec 64)) (i : Int) : BitVec 64 := if 0 ≤ i ∧ i < 32 then W.getD i.toNat 0#64 else 0#64
/-- what a file of registers holds -/
def rgOf (H : AH) : Sc → Option (Int → BitVec 64)
  | .nilp => some fun _ => 0#64
  | .p id 0 0 => match hg H id with
    | .own cs => match wordsL cs with
      | some W => if W.length = 32 then some (rgW W) else none
      | none => none
    | _ => none
  | _ => none
theorem rg_cases {H : AH} {f : Sc} {g : Int → BitVec 64} (h : rgOf H f = some g) : (f = .nilp ∧ g = fun _ => 0#64) ∨ ∃ id W, f = .p id 0 0 ∧ hg H id = .own (W.map Sc.u) ∧ W.length = 32 ∧ g = rgW W := by
  unfold rgOf at h
  split at h
  · simp only [Option.some.injEq] at h; exact .inl ⟨rfl, h.symm⟩
  · rename_i id
    split at h
    · rename_i cs hcs
      split at h
      · rename_i W hW
        split at h
        · rename_i hl
          simp only [Option.some.injEq] at h
          exact .inr ⟨id, W, rfl, by rw [hcs, wordsL_inv hW], hl, h.symm⟩
        · simp at h
      · simp at h
    · simp at h
  · simp at h
theorem rg_of {H : AH} {id : Nat} {W : List (BitVec 64)} (h : hg H id = .own (W.map Sc.u)) (hl : W.length = 32) : rgOf H (.p id 0 0) = some (rgW W) := by
  unfold rgOf
  simp only [h, wordsL_map, hl, if_true]
theorem rg_app {H : AH} {f : Sc} {g : Int → BitVec 64} (h : rgOf H f = some g) (X : AH) : rgOf (H ++ X) f = some g := by
  rcases rg_cases h with ⟨rfl, rfl⟩ | ⟨id, W, rfl, hcs, hl, rfl⟩
  · rfl
  · have lid : id < H.length := by
      rcases Nat.lt_or_ge id H.length with h' | h'
      · exact h'
      · rw [hg_ge _ h'] at hcs; simp at hcs
    exact rg_of (by rw [hg_lt' lid]; exact hcs) hl
def s_rin5 (args : List AV) : Option AV :=
  match args with
  | [.c (.i i)] => some (.c (.b (decide (0 ≤ i) && decide (i < 32))))
  | _ => none
theorem s_rin5_eq {i} : s_rin5 [.c (.i i)] = some (.c (.b (decide (0 ≤ i) && decide (i < 32)))) := rfl
set_option maxRecDepth 100000 in
set_option maxHeartbeats 2000000 in
theorem ok_rin5 : PuOk Try.prog 43 s_rin5 := by
  refine pu_ok (tab := []) hmix TabOk.nil Try.func43 rfl Try.results43 Try.ntmps43 (by kernel_rfl) (by kernel_rfl) ?_
  intro args v h
  unfold s_rin5 at h
  split at h
  · rename_i i
    simp only [Option.some.injEq] at h; subst h
    refine ⟨by simp only [List.length_cons, List.length_nil]; decide, rfl, rfl, ?_⟩
    by_cases h : 0 ≤ i
    all_goals (try simp (config := { maxSteps := 10000000 }) only [go_sem, List.reduceReplicate, BitVec.reduceOfInt, BitVec.reduceToNat, BitVec.reduceToInt, BitVec.reduceEq, BitVec.reduceLT, BitVec.reduceLE, BitVec.reduceAdd, BitVec.reduceSub, BitVec.reduceMul, BitVec.reduceUDiv, BitVec.reduceUMod, BitVec.reduceAnd, BitVec.reduceOr, BitVec.reduceXOr, BitVec.reduceNot, BitVec.reduceNeg, BitVec.reduceHShiftLeft, BitVec.reduceHShiftRight, Nat.reduceAdd, Nat.reduceMul, Nat.reduceSub, Nat.reduceBEq, Nat.reduceEqDiff, Nat.reduceLeDiff, Nat.reduceLT, Int.reduceLE, Int.reduceLT, Int.reduceAdd, Int.reduceSub, Int.reduceMul, Int.reduceNeg, Int.reduceToNat, Int.reduceEq, ↓reduceIte, reduceCtorEq, h]; repeat (simp (disch := omega) only [w64_d, ipos, ineg, dpos, dneg]; try simp (config := { maxSteps := 10000000 }) only [go_sem, List.reduceReplicate, BitVec.reduceOfInt, BitVec.reduceToNat, BitVec.reduceToInt, BitVec.reduceEq, BitVec.reduceLT, BitVec.reduceLE, BitVec.reduceAdd, BitVec.reduceSub, BitVec.reduceMul, BitVec.reduceUDiv, BitVec.reduceUMod, BitVec.reduceAnd, BitVec.reduceOr, BitVec.reduceXOr, BitVec.reduceNot, BitVec.reduceNeg, BitVec.reduceHShiftLeft, BitVec.reduceHShiftRight, Nat.reduceAdd, Nat.reduceMul, Nat.reduceSub, Nat.reduceBEq, Nat.reduceEqDiff, Nat.reduceLeDiff, Nat.reduceLT, Int.reduceLE, Int.reduceLT, Int.reduceAdd, Int.reduceSub, Int.reduceMul, Int.reduceNeg, Int.reduceToNat, Int.reduceEq, ↓reduceIte, reduceCtorEq, h]))
  · simp at h
def s_rget (args : List AV) (H : AH) : Option AV :=
  match args with
  | [.c f, .c (.i i)] => (rgOf H f).map fun g => .c (.u (g i))
  | _ => none
theorem s_rget_eq {H : AH} {f : Sc} {i : Int} : s_rget [.c f, .c (.i i)] H = (rgOf H f).map fun g => .c (.u (g i)) := rfl
set_option maxRecDepth 100000 in
set_option maxHeartbeats 2000000 in
theorem ok_rget : FpOk Try.prog 24 (fun args H => (s_rget args H).map fun v => (v, H)) := by
  refine fq_ok (s := s_rget) (tab := [(43, .pu s_rin5)]) hmix (TabOk.cons (e := .pu s_rin5) ok_rin5 TabOk.nil) Try.func24 rfl Try.results24 Try.ntmps24 (by kernel_rfl) (by kernel_rfl) ?_
  intro args H v h hargs hH
  unfold s_rget at h
  split at h
  · rename_i f i
    rw [Option.map_eq_some_iff] at h
    obtain ⟨g, hg', rfl⟩ := h
    refine ⟨by simp only [List.length_cons, List.length_nil]; decide, rfl, ?_⟩
    rcases rg_cases hg' with ⟨rfl, rfl⟩ | ⟨id, W, rfl, hcs, hl, rfl⟩
    · (try simp (config := { maxSteps := 10000000 }) only [go_sem, List.reduceReplicate, BitVec.reduceOfInt, BitVec.reduceToNat, BitVec.reduceToInt, BitVec.reduceEq, BitVec.reduceLT, BitVec.reduceLE, BitVec.reduceAdd, BitVec.reduceSub, BitVec.reduceMul, BitVec.reduceUDiv, BitVec.reduceUMod, BitVec.reduceAnd, BitVec.reduceOr, BitVec.reduceXOr, BitVec.reduceNot, BitVec.reduceNeg, BitVec.reduceHShiftLeft, BitVec.reduceHShiftRight, Nat.reduceAdd, Nat.reduceMul, Nat.reduceSub, Nat.reduceBEq, Nat.reduceEqDiff, Nat.reduceLeDiff, Nat.reduceLT, Int.reduceLE, Int.reduceLT, Int.reduceAdd, Int.reduceSub, Int.reduceMul, Int.reduceNeg, Int.reduceToNat, Int.reduceEq, ↓reduceIte, reduceCtorEq, s_rin5_eq]; repeat (simp (disch := omega) only [w64_d, ipos, ineg, dpos, dneg]; try simp (config := { maxSteps := 10000000 }) only [go_sem, List.reduceReplicate, BitVec.reduceOfInt, BitVec.reduceToNat, BitVec.reduceToInt, BitVec.reduceEq, BitVec.reduceLT, BitVec.reduceLE, BitVec.reduceAdd, BitVec.reduceSub, BitVec.reduceMul, BitVec.reduceUDiv, BitVec.reduceUMod, BitVec.reduceAnd, BitVec.reduceOr, BitVec.reduceXOr, BitVec.reduceNot, BitVec.reduceNeg, BitVec.reduceHShiftLeft, BitVec.reduceHShiftRight, Nat.reduceAdd, Nat.reduceMul, Nat.reduceSub, Nat.reduceBEq, Nat.reduceEqDiff, Nat.reduceLeDiff, Nat.reduceLT, Int.reduceLE, Int.reduceLT, Int.reduceAdd, Int.reduceSub, Int.reduceMul, Int.reduceNeg, Int.reduceToNat, Int.reduceEq, ↓reduceIte, reduceCtorEq, s_rin5_eq]))
      exact subH_refl _
    · by_cases h0 : 0 ≤ i
      · by_cases h1 : i < 32
        · have g1 : (W.map Sc.u).getD i.toNat .any = .u (W.getD i.toNat 0#64) := by
            rw [List.getD_eq_getElem?_getD, List.getElem?_map, List.getD_eq_getElem?_getD, List.getElem?_eq_getElem (by omega)]; rfl
          have e1 : i.toNat + 1 ≤ 32 := by omega
          (try simp (config := { maxSteps := 10000000 }) only [go_sem, List.reduceReplicate, BitVec.reduceOfInt, BitVec.reduceToNat, BitVec.reduceToInt, BitVec.reduceEq, BitVec.reduceLT, BitVec.reduceLE, BitVec.reduceAdd, BitVec.reduceSub, BitVec.reduceMul, BitVec.reduceUDiv, BitVec.reduceUMod, BitVec.reduceAnd, BitVec.reduceOr, BitVec.reduceXOr, BitVec.reduceNot, BitVec.reduceNeg, BitVec.reduceHShiftLeft, BitVec.reduceHShiftRight, Nat.reduceAdd, Nat.reduceMul, Nat.reduceSub, Nat.reduceBEq, Nat.reduceEqDiff, Nat.reduceLeDiff, Nat.reduceLT, Int.reduceLE, Int.reduceLT, Int.reduceAdd, Int.reduceSub, Int.reduceMul, Int.reduceNeg, Int.reduceToNat, Int.reduceEq, ↓reduceIte, reduceCtorEq, s_rin5_eq, hcs, h0, h1, rgW, List.length_map, hl, g1, e1]; repeat (simp (disch := omega) only [w64_d, ipos, ineg, dpos, dneg]; try simp (config := { maxSteps := 10000000 }) only [go_sem, List.reduceReplicate, BitVec.reduceOfInt, BitVec.reduceToNat, BitVec.reduceToInt, BitVec.reduceEq, BitVec.reduceLT, BitVec.reduceLE, BitVec.reduceAdd, BitVec.reduceSub, BitVec.reduceMul, BitVec.reduceUDiv, BitVec.reduceUMod, BitVec.reduceAnd, BitVec.reduceOr, BitVec.reduceXOr, BitVec.reduceNot, BitVec.reduceNeg, BitVec.reduceHShiftLeft, BitVec.reduceHShiftRight, Nat.reduceAdd, Nat.reduceMul, Nat.reduceSub, Nat.reduceBEq, Nat.reduceEqDiff, Nat.reduceLeDiff, Nat.reduceLT, Int.reduceLE, Int.reduceLT, Int.reduceAdd, Int.reduceSub, Int.reduceMul, Int.reduceNeg, Int.reduceToNat, Int.reduceEq, ↓reduceIte, reduceCtorEq, s_rin5_eq, hcs, h0, h1, rgW, List.length_map, hl, g1, e1]))
          exact subH_refl _
        · (try simp (config := { maxSteps := 10000000 }) only [go_sem, List.reduceReplicate, BitVec.reduceOfInt, BitVec.reduceToNat, BitVec.reduceToInt, BitVec.reduceEq, BitVec.reduceLT, BitVec.reduceLE, BitVec.reduceAdd, BitVec.reduceSub, BitVec.reduceMul, BitVec.reduceUDiv, BitVec.reduceUMod, BitVec.reduceAnd, BitVec.reduceOr, BitVec.reduceXOr, BitVec.reduceNot, BitVec.reduceNeg, BitVec.reduceHShiftLeft, BitVec.reduceHShiftRight, Nat.reduceAdd, Nat.reduceMul, Nat.reduceSub, Nat.reduceBEq, Nat.reduceEqDiff, Nat.reduceLeDiff, Nat.reduceLT, Int.reduceLE, Int.reduceLT, Int.reduceAdd, Int.reduceSub, Int.reduceMul, Int.reduceNeg, Int.reduceToNat, Int.reduceEq, ↓reduceIte, reduceCtorEq, s_rin5_eq, hcs, h0, h1, rgW, List.length_map, hl, and_false, if_false]; repeat (simp (disch := omega) only [w64_d, ipos, ineg, dpos, dneg]; try simp (config := { maxSteps := 10000000 }) only [go_sem, List.reduceReplicate, BitVec.reduceOfInt, BitVec.reduceToNat, BitVec.reduceToInt, BitVec.reduceEq, BitVec.reduceLT, BitVec.reduceLE, BitVec.reduceAdd, BitVec.reduceSub, BitVec.reduceMul, BitVec.reduceUDiv, BitVec.reduceUMod, BitVec.reduceAnd, BitVec.reduceOr, BitVec.reduceXOr, BitVec.reduceNot, BitVec.reduceNeg, BitVec.reduceHShiftLeft, BitVec.reduceHShiftRight, Nat.reduceAdd, Nat.reduceMul, Nat.reduceSub, Nat.reduceBEq, Nat.reduceEqDiff, Nat.reduceLeDiff, Nat.reduceLT, Int.reduceLE, Int.reduceLT, Int.reduceAdd, Int.reduceSub, Int.reduceMul, Int.reduceNeg, Int.reduceToNat, Int.reduceEq, ↓reduceIte, reduceCtorEq, s_rin5_eq, hcs, h0, h1, rgW, List.length_map, hl, and_false, if_false]))
          exact subH_refl _
      · (try simp (config := { maxSteps := 10000000 }) only [go_sem, List.reduceReplicate, BitVec.reduceOfInt, BitVec.reduceToNat, BitVec.reduceToInt, BitVec.reduceEq, BitVec.reduceLT, BitVec.reduceLE, BitVec.reduceAdd, BitVec.reduceSub, BitVec.reduceMul, BitVec.reduceUDiv, BitVec.reduceUMod, BitVec.reduceAnd, BitVec.reduceOr, BitVec.reduceXOr, BitVec.reduceNot, BitVec.reduceNeg, BitVec.reduceHShiftLeft, BitVec.reduceHShiftRight, Nat.reduceAdd, Nat.reduceMul, Nat.reduceSub, Nat.reduceBEq, Nat.reduceEqDiff, Nat.reduceLeDiff, Nat.reduceLT, Int.reduceLE, Int.reduceLT, Int.reduceAdd, Int.reduceSub, Int.reduceMul, Int.reduceNeg, Int.reduceToNat, Int.reduceEq, ↓reduceIte, reduceCtorEq, s_rin5_eq, hcs, h0, rgW, List.length_map, hl, false_and, if_false]; repeat (simp (disch := omega) only [w64_d, ipos, ineg, dpos, dneg]; try simp (config := { maxSteps := 10000000 }) only [go_sem, List.reduceReplicate, BitVec.reduceOfInt, BitVec.reduceToNat, BitVec.reduceToInt, BitVec.reduceEq, BitVec.reduceLT, BitVec.reduceLE, BitVec.reduceAdd, BitVec.reduceSub, BitVec.reduceMul, BitVec.reduceUDiv, BitVec.reduceUMod, BitVec.reduceAnd, BitVec.reduceOr, BitVec.reduceXOr, BitVec.reduceNot, BitVec.reduceNeg, BitVec.reduceHShiftLeft, BitVec.reduceHShiftRight, Nat.reduceAdd, Nat.reduceMul, Nat.reduceSub, Nat.reduceBEq, Nat.reduceEqDiff, Nat.reduceLeDiff, Nat.reduceLT, Int.reduceLE, Int.reduceLT, Int.reduceAdd, Int.reduceSub, Int.reduceMul, Int.reduceNeg, Int.reduceToNat, Int.reduceEq, ↓reduceIte, reduceCtorEq, s_rin5_eq, hcs, h0, rgW, List.length_map, hl, false_and, if_false]))
        exact subH_refl _
  · simp at h

end
end Go.Proofs.Ytjlbgjhnhhihoaa
