/- Layer 17: is a port as the document's: contracts. -/
import Derived.Test.YtbjkcjpcnbephaaU17
namespace Go.Proofs.Ytbjkcjpcnbephaa
open Go.Am
set_option linter.unusedSimpArgs false
set_option linter.unusedVariables false
noncomputable section

def holdT (t u : Pt) : Bool := decide (t.A = u.A) && (decide (t.B = u.B) && ((!decide (causeP t = 1)) == (!decide (causeP u = 1))))
def s_holds (args : List AV) (H : AH) : Option AV :=
  match args with
  | [.c (.p id 0 0), .g c] =>
    match ptD H id, rpD H c with
    | some (t, _, _), some (u, _, _) => if t.A.length ≤ 1000000 ∧ t.B.length ≤ 1000000 then some (.c (.b (holdT t u))) else none
    | _, _ => none
  | _ => none
theorem s_holds_eq {id : Nat} {H : AH} {t u : Pt} {x y x' y' : Sc} (h1 : ptD H id = some (t, x, y)) (h2 : RpOk H u x' y') (h3 : t.A.length ≤ 1000000 ∧ t.B.length ≤ 1000000) : s_holds [.c (.p id 0 0), .g (rpC u x' y')] H = some (.c (.b (holdT t u))) := by
  simp only [s_holds, h1, rpD_of h2]; rw [if_pos h3]
set_option maxHeartbeats 8000000 in
set_option maxRecDepth 100000 in
set_option maxHeartbeats 2000000 in
theorem ok_holds : FpOk Try.prog 19 (fun args H => (s_holds args H).map fun v => (v, H)) := by
  refine fq_ok (s := s_holds) (tab := [(11, .fp s_uwaiting), (13, .fp s_uout), (14, .fq s_uline), (12, .fq s_ubytes), (35, .fq s_rcause)]) hmix (TabOk.cons (e := .fp s_uwaiting) ok_uwaiting (TabOk.cons (e := .fp s_uout) ok_uout (TabOk.cons (e := .fq s_uline) ok_uline (TabOk.cons (e := .fq s_ubytes) ok_ubytes (TabOk.cons (e := .fq s_rcause) ok_rcause TabOk.nil))))) Try.func19 rfl Try.results19 Try.ntmps19 (by kernel_rfl) (by kernel_rfl) ?_
  intro args H v h hargs hH
  unfold s_holds at h
  split at h
  · rename_i id c
    split at h
    · rename_i t x y u x' y' ht hu
      obtain ⟨rfl, ok⟩ := rpD_inv hu
      split at h
      · rename_i hc
        obtain ⟨c1, c2⟩ := hc
        simp only [Option.some.injEq] at h
        subst h
        refine ⟨by simp only [List.length_cons, List.length_nil]; decide, rfl, ?_⟩
        obtain ⟨hm, hA, hB⟩ := ptD_inv ht
        have lid : id < H.length := hg_lt (by rw [hm]; rfl)
        have bel := bel_at hH id
        rw [hm] at bel
        have bx : x.bel H.length = true := by simp only [AObj.cells, poC, poOf, List.all_cons, Bool.and_eq_true] at bel; exact bel.2.2.2.2.2.2.2.2.2.1
        have bY : y.bel H.length = true := by simp only [AObj.cells, poC, poOf, List.all_cons, Bool.and_eq_true] at bel; exact bel.2.2.2.2.2.2.2.2.2.2.1
        have hargs' : (rpC u x' y').all (Sc.bel H.length) = true := by simp only [List.all_cons, AV.bel, Bool.and_eq_true] at hargs; exact hargs.2.1
        obtain ⟨bx', bY'⟩ := rp_bel hargs'
        have po : ∀ X, poD (hg (H ++ X) id) = some (poOf t x y) := fun X => by rw [hg_app lid, hm]; rfl
        have qw : ∀ X, s_uwaiting [.c (.p id 0 0)] (H ++ X) = some (.c (.sl (H.length + X.length) 0 t.A.length t.A.length), H ++ (X ++ [.vec 1 (t.A.flatMap enc8)])) := fun X => by
          simp only [s_uwaiting, po]
          rw [show (poOf t x y).x = x from rfl, clone_sl hA bx c1]; rfl
        have qo : ∀ X, s_uout [.c (.p id 0 0)] (H ++ X) = some (.c (.sl (H.length + X.length) 0 t.B.length t.B.length), H ++ (X ++ [.vec 1 (t.B.flatMap enc8)])) := fun X => by
          simp only [s_uout, po]
          rw [show (poOf t x y).y = y from rfl, clone_sl hB bY c2]; rfl
        have ql : ∀ X, s_uline [.c (.p id 0 0)] (H ++ X) = some (.c (.b (!decide (causeP t = 1)))) := fun X => by
          rw [s_uline_eq (po X) (sl_len hA)]; rfl
        have qc : ∀ X, s_rcause [.g (rpC u x' y')] (H ++ X) = some (.c (.i (causeP u))) := fun X => s_rcause_eq (rp_app ok bx' bY')
        have v1 : ∀ P : AObj, slD 1 dc8 (H ++ [P, .vec 1 (t.A.flatMap enc8)]) (.sl (H.length + 1) 0 t.A.length t.A.length) = some t.A := fun P => by
          have g : hg (H ++ [P, .vec 1 (t.A.flatMap enc8)]) (H.length + 1) = .vec 1 (t.A.flatMap enc8) := by simp [hg, List.getD_eq_getElem?_getD]
          exact slD_of enc8_l dc8_e (by rw [g]; simp only [AObj.row, e8_len]) rfl (by rw [g]; rfl)
        have v2 : ∀ P Q : AObj, slD 1 dc8 (H ++ [P, Q, .vec 1 (t.B.flatMap enc8)]) (.sl (H.length + 2) 0 t.B.length t.B.length) = some t.B := fun P Q => by
          have g : hg (H ++ [P, Q, .vec 1 (t.B.flatMap enc8)]) (H.length + 2) = .vec 1 (t.B.flatMap enc8) := by simp [hg, List.getD_eq_getElem?_getD]
          exact slD_of enc8_l dc8_e (by rw [g]; simp only [AObj.row, e8_len]) rfl (by rw [g]; rfl)
        have q1 := fun P => s_ubytes_eq (v1 P) (slD_app (X := [P, .vec 1 (t.A.flatMap enc8)]) ok.hx bx') c1 ok.la
        have q2 := fun P Q => s_ubytes_eq (v2 P Q) (slD_app (X := [P, Q, .vec 1 (t.B.flatMap enc8)]) ok.hy bY') c2 ok.lb
        have ox := sl_one ok.hx
        have oy := sl_one ok.hy
        unfold holdT
        generalize causeP t = ct at *
        generalize causeP u = cu at *
        simp only [rpC] at qc
        by_cases hAA : t.A = u.A <;> by_cases hBB : t.B = u.B
        all_goals simp only [hAA, hBB, decide_true, decide_false] at q1 q2
        all_goals rcases sl_cases ok.hx with ⟨rfl, hA'⟩ | ⟨i3, v3, rfl, hv3, hcs3⟩ <;> rcases sl_cases ok.hy with ⟨rfl, hB'⟩ | ⟨i4, v4, rfl, hv4, hcs4⟩
        all_goals (try simp (config := { maxSteps := 10000000 }) only [go_sem, List.reduceReplicate, BitVec.reduceOfInt, BitVec.reduceToNat, BitVec.reduceToInt, BitVec.reduceEq, BitVec.reduceLT, BitVec.reduceLE, BitVec.reduceAdd, BitVec.reduceSub, BitVec.reduceMul, BitVec.reduceUDiv, BitVec.reduceUMod, BitVec.reduceAnd, BitVec.reduceOr, BitVec.reduceXOr, BitVec.reduceNot, BitVec.reduceNeg, BitVec.reduceHShiftLeft, BitVec.reduceHShiftRight, Nat.reduceAdd, Nat.reduceMul, Nat.reduceSub, Nat.reduceBEq, Nat.reduceEqDiff, Nat.reduceLeDiff, Nat.reduceLT, Int.reduceLE, Int.reduceLT, Int.reduceAdd, Int.reduceSub, Int.reduceMul, Int.reduceNeg, Int.reduceToNat, Int.reduceEq, ↓reduceIte, reduceCtorEq, rpC, hAA, hBB, qw, qo, ql, qc, q1, q2, decide_true, decide_false, Bool.true_and, Bool.false_and]; repeat (simp (disch := omega) only [w64_d, ipos, ineg, dpos, dneg]; try simp (config := { maxSteps := 10000000 }) only [go_sem, List.reduceReplicate, BitVec.reduceOfInt, BitVec.reduceToNat, BitVec.reduceToInt, BitVec.reduceEq, BitVec.reduceLT, BitVec.reduceLE, BitVec.reduceAdd, BitVec.reduceSub, BitVec.reduceMul, BitVec.reduceUDiv, BitVec.reduceUMod, BitVec.reduceAnd, BitVec.reduceOr, BitVec.reduceXOr, BitVec.reduceNot, BitVec.reduceNeg, BitVec.reduceHShiftLeft, BitVec.reduceHShiftRight, Nat.reduceAdd, Nat.reduceMul, Nat.reduceSub, Nat.reduceBEq, Nat.reduceEqDiff, Nat.reduceLeDiff, Nat.reduceLT, Int.reduceLE, Int.reduceLT, Int.reduceAdd, Int.reduceSub, Int.reduceMul, Int.reduceNeg, Int.reduceToNat, Int.reduceEq, ↓reduceIte, reduceCtorEq, rpC, hAA, hBB, qw, qo, ql, qc, q1, q2, decide_true, decide_false, Bool.true_and, Bool.false_and]))
        all_goals (repeat' apply And.intro) <;> first | exact subH_app _ _ | kernel_rfl | (intro e; omega) | (intro _; kernel_rfl) | (simp; done)
      · simp at h
    · simp at h
  · simp at h
end
end Go.Proofs.Ytbjkcjpcnbephaa
