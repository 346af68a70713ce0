/- Layer 29: int slices alike: contract. -/
import Derived.Test.YthjhkckndnhjpaaMa8
namespace Go.Proofs.Ythjhkckndnhjpaa
open Go.Am
set_option linter.unusedSimpArgs false
set_option linter.unusedVariables false
noncomputable section

def s_ints29 (args : List AV) (H : AH) : Option AV :=
  match args with
  | [.c x, .c y] =>
    match slD 1 dcI H x, slD 1 dcI H y with
    | some A, some B => if A.length ≤ 1000000 ∧ A = B then some (.c (.b true)) else none
    | _, _ => none
  | _ => none
theorem s_ints29_of {x y : Sc} {H : AH} {L : List Int} (h1 : slD 1 dcI H x = some L) (h2 : slD 1 dcI H y = some L) (hl : L.length ≤ 1000000) : s_ints29 [.c x, .c y] H = some (.c (.b true)) := by
  simp only [s_ints29, h1, h2, hl, and_self, if_true]
set_option maxRecDepth 100000 in
set_option maxHeartbeats 2000000 in
theorem ok_ints29 : FpOk Try.prog 21 (fun args H => (s_ints29 args H).map fun v => (v, H)) := by
  refine fq_ok (s := s_ints29) (tab := []) hmix TabOk.nil Try.func21 rfl Try.results21 Try.ntmps21 (by kernel_rfl) (by kernel_rfl) ?_
  intro args H v h hargs hH
  unfold s_ints29 at h
  split at h
  · rename_i x y
    split at h
    · rename_i A B hA hB
      split at h
      · rename_i hc
        obtain ⟨hn, hc⟩ := hc
        subst hc
        simp only [Option.some.injEq] at h
        subst h
        refine ⟨by simp only [List.length_cons, List.length_nil]; decide, rfl, ?_⟩
        have bx : x.bel H.length = true := by simp only [List.all_cons, AV.bel, Bool.and_eq_true] at hargs; exact hargs.1
        have byy : y.bel H.length = true := by simp only [List.all_cons, AV.bel, Bool.and_eq_true] at hargs; exact hargs.2.1
        have hx := slD_inv dcI_d hA
        have hy := slD_inv dcI_d hB
        have xl : ∀ e, lenB (.sl e) (.c x) = some (.c (.i A.length)) := by
          intro e
          rcases hx with ⟨rfl, rfl⟩ | ⟨id2, v2, rfl, _, _⟩ <;> rfl
        have yl : ∀ e, lenB (.sl e) (.c y) = some (.c (.i A.length)) := by
          intro e
          rcases hy with ⟨rfl, rfl⟩ | ⟨id2, v2, rfl, _, _⟩ <;> rfl
        (try simp (config := { maxSteps := 10000000 }) only [go_sem, List.reduceReplicate, BitVec.reduceOfInt, BitVec.reduceToNat, BitVec.reduceToInt, BitVec.reduceEq, BitVec.reduceLT, BitVec.reduceLE, BitVec.reduceAdd, BitVec.reduceSub, BitVec.reduceMul, BitVec.reduceUDiv, BitVec.reduceUMod, BitVec.reduceAnd, BitVec.reduceOr, BitVec.reduceXOr, BitVec.reduceNot, BitVec.reduceNeg, BitVec.reduceHShiftLeft, BitVec.reduceHShiftRight, Nat.reduceAdd, Nat.reduceMul, Nat.reduceSub, Nat.reduceBEq, Nat.reduceEqDiff, Nat.reduceLeDiff, Nat.reduceLT, Int.reduceLE, Int.reduceLT, Int.reduceAdd, Int.reduceSub, Int.reduceMul, Int.reduceNeg, Int.reduceToNat, Int.reduceEq, ↓reduceIte, reduceCtorEq, xl, yl]; repeat (simp (disch := omega) only [w64_d, ipos, ineg, dpos, dneg]; try simp (config := { maxSteps := 10000000 }) only [go_sem, List.reduceReplicate, BitVec.reduceOfInt, BitVec.reduceToNat, BitVec.reduceToInt, BitVec.reduceEq, BitVec.reduceLT, BitVec.reduceLE, BitVec.reduceAdd, BitVec.reduceSub, BitVec.reduceMul, BitVec.reduceUDiv, BitVec.reduceUMod, BitVec.reduceAnd, BitVec.reduceOr, BitVec.reduceXOr, BitVec.reduceNot, BitVec.reduceNeg, BitVec.reduceHShiftLeft, BitVec.reduceHShiftRight, Nat.reduceAdd, Nat.reduceMul, Nat.reduceSub, Nat.reduceBEq, Nat.reduceEqDiff, Nat.reduceLeDiff, Nat.reduceLT, Int.reduceLE, Int.reduceLT, Int.reduceAdd, Int.reduceSub, Int.reduceMul, Int.reduceNeg, Int.reduceToNat, Int.reduceEq, ↓reduceIte, reduceCtorEq, xl, yl]))
        refine arun_for A.length (fun k => ([(0, .c x), (1, .c y), (5, .c (.i k))], H)) ?_ fun k hk => ?_
        · exact Wk.wk (by simp [lo]) (by simp [Am.get]) (by simp only [List.all_cons, List.all_nil, Bool.and_true, Bool.and_eq_true, AV.bel]; exact ⟨bx, byy, rfl⟩) (subH_refl _) hH
        · have k0 : (0 : Int) ≤ (k : Int) := by omega
          by_cases hlt : k < A.length
          rotate_left
          · obtain rfl : k = A.length := by omega
            (try simp (config := { maxSteps := 10000000 }) only [go_sem, List.reduceReplicate, BitVec.reduceOfInt, BitVec.reduceToNat, BitVec.reduceToInt, BitVec.reduceEq, BitVec.reduceLT, BitVec.reduceLE, BitVec.reduceAdd, BitVec.reduceSub, BitVec.reduceMul, BitVec.reduceUDiv, BitVec.reduceUMod, BitVec.reduceAnd, BitVec.reduceOr, BitVec.reduceXOr, BitVec.reduceNot, BitVec.reduceNeg, BitVec.reduceHShiftLeft, BitVec.reduceHShiftRight, Nat.reduceAdd, Nat.reduceMul, Nat.reduceSub, Nat.reduceBEq, Nat.reduceEqDiff, Nat.reduceLeDiff, Nat.reduceLT, Int.reduceLE, Int.reduceLT, Int.reduceAdd, Int.reduceSub, Int.reduceMul, Int.reduceNeg, Int.reduceToNat, Int.reduceEq, ↓reduceIte, reduceCtorEq, xl, yl]; repeat (simp (disch := omega) only [w64_d, ipos, ineg, dpos, dneg]; try simp (config := { maxSteps := 10000000 }) only [go_sem, List.reduceReplicate, BitVec.reduceOfInt, BitVec.reduceToNat, BitVec.reduceToInt, BitVec.reduceEq, BitVec.reduceLT, BitVec.reduceLE, BitVec.reduceAdd, BitVec.reduceSub, BitVec.reduceMul, BitVec.reduceUDiv, BitVec.reduceUMod, BitVec.reduceAnd, BitVec.reduceOr, BitVec.reduceXOr, BitVec.reduceNot, BitVec.reduceNeg, BitVec.reduceHShiftLeft, BitVec.reduceHShiftRight, Nat.reduceAdd, Nat.reduceMul, Nat.reduceSub, Nat.reduceBEq, Nat.reduceEqDiff, Nat.reduceLeDiff, Nat.reduceLT, Int.reduceLE, Int.reduceLT, Int.reduceAdd, Int.reduceSub, Int.reduceMul, Int.reduceNeg, Int.reduceToNat, Int.reduceEq, ↓reduceIte, reduceCtorEq, xl, yl]))
            exact subH_refl _
          have kI : ((k : Int) < (A.length : Int)) := by omega
          obtain ⟨e, he⟩ : ∃ e, A[k]? = some e := ⟨_, List.getElem?_eq_getElem hlt⟩
          have e1 : w64 ((k : Int) + 1) = ((k + 1 : Nat) : Int) := by rw [w64_of (by omega)]; omega
          rcases hx with ⟨rfl, rfl⟩ | ⟨i1, v1, rfl, hv1, hcs1⟩
          · simp at hlt
          rcases hy with ⟨rfl, rfl⟩ | ⟨i2, v2, rfl, hv2, hcs2⟩
          · simp at hlt
          have hv1 := hv1.symm
          have hv2 := hv2.symm
          have b1 : k + 1 ≤ (hg H i1).cells.length := by
            rw [hcs1]
            have := fm_le encI_l (L := A) (k := k) hlt
            omega
          have b2 : k + 1 ≤ (hg H i2).cells.length := by
            rw [hcs2]
            have := fm_le encI_l (L := A) (k := k) hlt
            omega
          have g1 : (hg H i1).cells.getD k .any = .i e := by rw [hcs1]; exact fm1 (g := Sc.i) (fun _ => rfl) he
          have g2 : (hg H i2).cells.getD k .any = .i e := by rw [hcs2]; exact fm1 (g := Sc.i) (fun _ => rfl) he
          (try simp (config := { maxSteps := 10000000 }) only [go_sem, List.reduceReplicate, BitVec.reduceOfInt, BitVec.reduceToNat, BitVec.reduceToInt, BitVec.reduceEq, BitVec.reduceLT, BitVec.reduceLE, BitVec.reduceAdd, BitVec.reduceSub, BitVec.reduceMul, BitVec.reduceUDiv, BitVec.reduceUMod, BitVec.reduceAnd, BitVec.reduceOr, BitVec.reduceXOr, BitVec.reduceNot, BitVec.reduceNeg, BitVec.reduceHShiftLeft, BitVec.reduceHShiftRight, Nat.reduceAdd, Nat.reduceMul, Nat.reduceSub, Nat.reduceBEq, Nat.reduceEqDiff, Nat.reduceLeDiff, Nat.reduceLT, Int.reduceLE, Int.reduceLT, Int.reduceAdd, Int.reduceSub, Int.reduceMul, Int.reduceNeg, Int.reduceToNat, Int.reduceEq, ↓reduceIte, reduceCtorEq, xl, yl, kI, k0, e1, hv1, hv2, b1, b2, g1, g2]; repeat (simp (disch := omega) only [w64_d, ipos, ineg, dpos, dneg]; try simp (config := { maxSteps := 10000000 }) only [go_sem, List.reduceReplicate, BitVec.reduceOfInt, BitVec.reduceToNat, BitVec.reduceToInt, BitVec.reduceEq, BitVec.reduceLT, BitVec.reduceLE, BitVec.reduceAdd, BitVec.reduceSub, BitVec.reduceMul, BitVec.reduceUDiv, BitVec.reduceUMod, BitVec.reduceAnd, BitVec.reduceOr, BitVec.reduceXOr, BitVec.reduceNot, BitVec.reduceNeg, BitVec.reduceHShiftLeft, BitVec.reduceHShiftRight, Nat.reduceAdd, Nat.reduceMul, Nat.reduceSub, Nat.reduceBEq, Nat.reduceEqDiff, Nat.reduceLeDiff, Nat.reduceLT, Int.reduceLE, Int.reduceLT, Int.reduceAdd, Int.reduceSub, Int.reduceMul, Int.reduceNeg, Int.reduceToNat, Int.reduceEq, ↓reduceIte, reduceCtorEq, xl, yl, kI, k0, e1, hv1, hv2, b1, b2, g1, g2]))
          exact ⟨k + 1, by omega, by omega, Wk.wk (by simp [lo]) (by simp [Am.get]) (by simp only [List.all_cons, List.all_nil, Bool.and_true, Bool.and_eq_true, AV.bel]; exact ⟨bx, byy, rfl⟩) (subH_refl _) hH⟩
      · simp at h
    · simp at h
  · simp at h

end
end Go.Proofs.Ythjhkckndnhjpaa
