/- Layer 1: Gather, by cells. -/
import Derived.Test.YtcfnfdafcfpohaaB2
namespace Go.Proofs.Ytcfnfdafcfpohaa
open Go.Am
set_option linter.unusedSimpArgs false
set_option linter.unusedVariables false
noncomputable section

/-- a number out of a cell -/
def cellI : Sc → Int
  | .i x => x
  | _ => 0
def cellR : Sc → Bool
  | .i x => decide (inR x)
  | _ => false
theorem cellR_get {l : List Sc} {i : Nat} (h : l.all cellR = true) (hi : i < l.length) : ∃ x, inR x ∧ l[i]? = some (.i x) ∧ cellI (l.getD i .any) = x := by
  have := List.all_eq_true.1 h l[i] (List.getElem_mem hi)
  cases hl : l[i] <;> rw [hl] at this <;> simp [cellR] at this
  rename_i x
  exact ⟨x, this, by rw [List.getElem?_eq_getElem hi, hl], by simp [List.getD_eq_getElem?_getD, hi, hl, cellI]⟩
/-- parts put together, behind k of them -/
def gaU (w : BitVec 64) (l : List Sc) : Nat → BitVec 64
  | 0 => 0#64
  | k + 1 => if cellI (l.getD (2 * k + 1) .any) < 1 then gaU w l k else shiftU (gaU w l k) (min (cellI (l.getD (2 * k + 1) .any)) 64) ||| cutU w (cellI (l.getD (2 * k) .any)) (cellI (l.getD (2 * k + 1) .any))
def s_gather (args : List AV) (H : AH) : Option AV :=
  match args with
  | [.c (.u w), .c .nils] => some (.c (.u 0#64))
  | [.c (.u w), .c (.sl id 0 v n)] => if n ≤ 1000000 ∧ 2 * n ≤ (hg H id).cells.length ∧ v = (hg H id).row ∧ (hg H id).cells.all cellR = true then some (.c (.u (gaU w (hg H id).cells n))) else none
  | _ => none
theorem s_gather_eq {w : BitVec 64} {id v n : Nat} {H : AH} : s_gather [.c (.u w), .c (.sl id 0 v n)] H = if n ≤ 1000000 ∧ 2 * n ≤ (hg H id).cells.length ∧ v = (hg H id).row ∧ (hg H id).cells.all cellR = true then some (.c (.u (gaU w (hg H id).cells n))) else none := rfl
set_option maxRecDepth 100000 in
set_option maxHeartbeats 2000000 in
theorem ok_gather : FpOk Try.prog 34 (fun args H => (s_gather args H).map fun v => (v, H)) := by
  refine fq_ok (s := s_gather) (tab := [(46, .pu s_shift), (36, .pu s_cut)]) hmix (TabOk.cons (e := .pu s_shift) ok_shift (TabOk.cons (e := .pu s_cut) ok_cut TabOk.nil)) Try.func34 rfl Try.results34 Try.ntmps34 (by kernel_rfl) (by kernel_rfl) ?_
  intro args H v h hargs hH
  unfold s_gather at h
  split at h
  · rename_i w
    simp only [Option.some.injEq] at h
    subst h
    refine ⟨by simp only [List.length_cons, List.length_nil]; decide, rfl, ?_⟩
    simp (config := { maxSteps := 10000000 }) only [go_sem, List.reduceReplicate, BitVec.reduceOfInt, BitVec.reduceToNat, BitVec.reduceToInt, BitVec.reduceEq, BitVec.reduceLT, BitVec.reduceLE, BitVec.reduceAdd, BitVec.reduceSub, BitVec.reduceMul, BitVec.reduceUDiv, BitVec.reduceUMod, BitVec.reduceAnd, BitVec.reduceOr, BitVec.reduceXOr, BitVec.reduceNot, BitVec.reduceNeg, BitVec.reduceHShiftLeft, BitVec.reduceHShiftRight, Nat.reduceAdd, Nat.reduceMul, Nat.reduceSub, Nat.reduceBEq, Nat.reduceEqDiff, Nat.reduceLeDiff, Nat.reduceLT, Int.reduceLE, Int.reduceLT, Int.reduceAdd, Int.reduceSub, Int.reduceMul, Int.reduceNeg, Int.reduceToNat, Int.reduceEq, ↓reduceIte, reduceCtorEq, s_shift_eq, s_cut_eq]
    rw [arun_loop]
    refine ⟨Unit, fun _ => ([(5, .c (.u 0#64)), (9, .c (.i 0)), (10, .c (.i 0))], H), fun _ => 0, (), ?_, ?_⟩
    · exact Wk.wk (by simp [lo]) (by simp [Am.get]) rfl (subH_refl _) hH
    · intro _
      have e2 : ((0 : Int) < 0) = False := by simp
      simp (config := { maxSteps := 10000000 }) only [go_sem, List.reduceReplicate, BitVec.reduceOfInt, BitVec.reduceToNat, BitVec.reduceToInt, BitVec.reduceEq, BitVec.reduceLT, BitVec.reduceLE, BitVec.reduceAdd, BitVec.reduceSub, BitVec.reduceMul, BitVec.reduceUDiv, BitVec.reduceUMod, BitVec.reduceAnd, BitVec.reduceOr, BitVec.reduceXOr, BitVec.reduceNot, BitVec.reduceNeg, BitVec.reduceHShiftLeft, BitVec.reduceHShiftRight, Nat.reduceAdd, Nat.reduceMul, Nat.reduceSub, Nat.reduceBEq, Nat.reduceEqDiff, Nat.reduceLeDiff, Nat.reduceLT, Int.reduceLE, Int.reduceLT, Int.reduceAdd, Int.reduceSub, Int.reduceMul, Int.reduceNeg, Int.reduceToNat, Int.reduceEq, ↓reduceIte, reduceCtorEq, s_shift_eq, s_cut_eq, e2]
      exact subH_refl _
  · rename_i w id v n
    split at h
    · rename_i hc
      obtain ⟨h1, h3, h4, h5⟩ := hc
      simp only [Option.some.injEq] at h
      subst h
      generalize hl : (hg H id).cells = l at *
      have lid : id < H.length := by simpa [AV.bel, Sc.bel] using hargs
      refine ⟨by simp only [List.length_cons, List.length_nil]; decide, rfl, ?_⟩
      simp (config := { maxSteps := 10000000 }) only [go_sem, List.reduceReplicate, BitVec.reduceOfInt, BitVec.reduceToNat, BitVec.reduceToInt, BitVec.reduceEq, BitVec.reduceLT, BitVec.reduceLE, BitVec.reduceAdd, BitVec.reduceSub, BitVec.reduceMul, BitVec.reduceUDiv, BitVec.reduceUMod, BitVec.reduceAnd, BitVec.reduceOr, BitVec.reduceXOr, BitVec.reduceNot, BitVec.reduceNeg, BitVec.reduceHShiftLeft, BitVec.reduceHShiftRight, Nat.reduceAdd, Nat.reduceMul, Nat.reduceSub, Nat.reduceBEq, Nat.reduceEqDiff, Nat.reduceLeDiff, Nat.reduceLT, Int.reduceLE, Int.reduceLT, Int.reduceAdd, Int.reduceSub, Int.reduceMul, Int.reduceNeg, Int.reduceToNat, Int.reduceEq, ↓reduceIte, reduceCtorEq, s_shift_eq, s_cut_eq]
      rw [arun_loop]
      refine ⟨{k : Nat // k ≤ n}, fun k => ([(0, .c (.u w)), (5, .c (.u (gaU w l k.1))), (8, .c (.sl id 0 v n)), (9, .c (.i n)), (10, .c (.i k.1))], H), fun k => n - k.1, ⟨0, by omega⟩, ?_, ?_⟩
      · exact Wk.wk (by simp [lo]) (by simp [Am.get, gaU]) (by simp [AV.bel, Sc.bel, lid]) (subH_refl _) hH
      · rintro ⟨k, hk⟩
        by_cases hlt : k < n
        · have e1 : w64 ((k : Int) + 1) = ((k + 1 : Nat) : Int) := by rw [w64_of (by omega)]; omega
          have e2 : ((k : Int) < (n : Int)) = True := eq_true (by omega)
          have e3 : (0 ≤ (k : Int)) = True := eq_true (by omega)
          have e4 : (k * 2 + 2 ≤ l.length) = True := eq_true (by omega)
          obtain ⟨a, ia, ha, ca⟩ := cellR_get h5 (i := 2 * k) (by omega)
          obtain ⟨s, is, hs, cs⟩ := cellR_get h5 (i := 2 * k + 1) (by omega)
          have e5 : (l.drop (k * 2)).take 2 = [.i a, .i s] := by
            rw [Nat.mul_comm]
            apply List.ext_getElem?
            intro i
            rcases i with _ | _ | i
            · simp [List.getElem?_take, ha]
            · simp [List.getElem?_take, hs]
            · simp [List.getElem?_take]; intro h; omega
          have e6 : hg (H ++ ([] : AH)) id = hg H id := by simp
          have i6 : inR (min s 64) := ⟨by have := is.lo; omega, by omega⟩
          have hga : gaU w l (k + 1) = if s < 1 then gaU w l k else shiftU (gaU w l k) (min s 64) ||| cutU w a s := by simp only [gaU]; rw [ca, cs]
          by_cases hs1 : s < 1
          · simp (config := { maxSteps := 10000000 }) only [go_sem, List.reduceReplicate, BitVec.reduceOfInt, BitVec.reduceToNat, BitVec.reduceToInt, BitVec.reduceEq, BitVec.reduceLT, BitVec.reduceLE, BitVec.reduceAdd, BitVec.reduceSub, BitVec.reduceMul, BitVec.reduceUDiv, BitVec.reduceUMod, BitVec.reduceAnd, BitVec.reduceOr, BitVec.reduceXOr, BitVec.reduceNot, BitVec.reduceNeg, BitVec.reduceHShiftLeft, BitVec.reduceHShiftRight, Nat.reduceAdd, Nat.reduceMul, Nat.reduceSub, Nat.reduceBEq, Nat.reduceEqDiff, Nat.reduceLeDiff, Nat.reduceLT, Int.reduceLE, Int.reduceLT, Int.reduceAdd, Int.reduceSub, Int.reduceMul, Int.reduceNeg, Int.reduceToNat, Int.reduceEq, ↓reduceIte, reduceCtorEq, s_shift_eq, s_cut_eq, e1, e2, e3, hl, e4, e5, ← h4, hs1]
            exact ⟨⟨k + 1, by omega⟩, by simp; omega, Wk.wk (by simp [lo]) (by simp [Am.get, hga, hs1]) (by simp [AV.bel, Sc.bel, lid]) (subH_app _ _) hH⟩
          · simp (config := { maxSteps := 10000000 }) only [go_sem, List.reduceReplicate, BitVec.reduceOfInt, BitVec.reduceToNat, BitVec.reduceToInt, BitVec.reduceEq, BitVec.reduceLT, BitVec.reduceLE, BitVec.reduceAdd, BitVec.reduceSub, BitVec.reduceMul, BitVec.reduceUDiv, BitVec.reduceUMod, BitVec.reduceAnd, BitVec.reduceOr, BitVec.reduceXOr, BitVec.reduceNot, BitVec.reduceNeg, BitVec.reduceHShiftLeft, BitVec.reduceHShiftRight, Nat.reduceAdd, Nat.reduceMul, Nat.reduceSub, Nat.reduceBEq, Nat.reduceEqDiff, Nat.reduceLeDiff, Nat.reduceLT, Int.reduceLE, Int.reduceLT, Int.reduceAdd, Int.reduceSub, Int.reduceMul, Int.reduceNeg, Int.reduceToNat, Int.reduceEq, ↓reduceIte, reduceCtorEq, s_shift_eq, s_cut_eq, e1, e2, e3, hl, e4, e5, ← h4, hs1, ia, is, i6]
            exact ⟨⟨k + 1, by omega⟩, by simp; omega, Wk.wk (by simp [lo]) (by simp [Am.get, hga, hs1]) (by simp [AV.bel, Sc.bel, lid]) (subH_app _ _) hH⟩
        · obtain rfl : k = n := by omega
          have e2 : ((k : Int) < (k : Int)) = False := by simp
          simp (config := { maxSteps := 10000000 }) only [go_sem, List.reduceReplicate, BitVec.reduceOfInt, BitVec.reduceToNat, BitVec.reduceToInt, BitVec.reduceEq, BitVec.reduceLT, BitVec.reduceLE, BitVec.reduceAdd, BitVec.reduceSub, BitVec.reduceMul, BitVec.reduceUDiv, BitVec.reduceUMod, BitVec.reduceAnd, BitVec.reduceOr, BitVec.reduceXOr, BitVec.reduceNot, BitVec.reduceNeg, BitVec.reduceHShiftLeft, BitVec.reduceHShiftRight, Nat.reduceAdd, Nat.reduceMul, Nat.reduceSub, Nat.reduceBEq, Nat.reduceEqDiff, Nat.reduceLeDiff, Nat.reduceLT, Int.reduceLE, Int.reduceLT, Int.reduceAdd, Int.reduceSub, Int.reduceMul, Int.reduceNeg, Int.reduceToNat, Int.reduceEq, ↓reduceIte, reduceCtorEq, s_shift_eq, s_cut_eq, e2]
          exact subH_refl _
    · simp at h
  · simp at h

end
end Go.Proofs.Ytcfnfdafcfpohaa
