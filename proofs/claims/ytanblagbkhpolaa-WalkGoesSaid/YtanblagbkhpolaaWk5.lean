/- Layer 27: the document's walk: the walk through its code (printed by gw5.py). -/
import Derived.Test.YtanblagbkhpolaaWk4
namespace Go.Proofs.Ytanblagbkhpolaa
open Go.Am
set_option linter.unusedSimpArgs false
set_option linter.unusedVariables false
noncomputable section

theorem pr_drop {L : List Ans} {k : Nat} {a : Ans} (h : L[k]? = some a) : (prN L).drop k = (dN a, gN a) :: (prN L).drop (k + 1) := by
  have hk : k < L.length := by
    rcases Nat.lt_or_ge k L.length with h' | h'
    · exact h'
    · rw [List.getElem?_eq_none h'] at h; simp at h
  have hk2 : k < (prN L).length := by simpa [prN] using hk
  rw [List.drop_eq_getElem_cons hk2]
  congr 1
  rw [List.getElem?_eq_getElem hk] at h
  simp only [Option.some.injEq] at h
  simp [prN, h]
theorem pr_end {L : List Ans} {k : Nat} (h : L.length ≤ k) : (prN L).drop k = [] := List.drop_eq_nil_of_le (by simpa [prN] using h)
theorem rn_bel {H : AH} (hH : belH H = true) (s : Wst) (A : List AskR) (ag : Int) : belH (rnH H s A ag) = true := by
  have key : ∀ X : AH, (∀ o ∈ X, o.cells.all (Sc.bel (H ++ X).length) = true) → belH (H ++ X) = true := by
    intro X hX
    unfold belH
    rw [List.all_append, Bool.and_eq_true]
    refine ⟨List.all_eq_true.2 fun o ho => List.all_eq_true.2 fun c hc => ?_, List.all_eq_true.2 hX⟩
    exact Sc.bel_mono (List.all_eq_true.1 (List.all_eq_true.1 hH o ho) c hc) (by simp)
  unfold rnH
  split
  · refine key _ fun o ho => ?_
    simp only [List.mem_cons, List.not_mem_nil, or_false] at ho
    rcases ho with rfl | rfl | rfl <;> rfl
  · refine key _ fun o ho => ?_
    simp only [List.mem_cons, List.not_mem_nil, or_false] at ho
    rcases ho with rfl | rfl | rfl | rfl | rfl
    · rfl
    · rfl
    · simp [AObj.cells, Sc.bel]
    · rfl
    · exact encK_bel _ _
/-- the next round -/
theorem wk_next {z : Nat} {fr : Fr} {H X : AH} {d : AObj} {s : Wst} {A : List AskR} {ag : Int} {n m : Nat} {cs : List Sc} {x : Sc} {k : Nat} {lev : Int} {ppn : BitVec 64} (hz : z ≤ H.length) (hH : belH H = true) (hx : x.bel H.length = true) (hA : A ≠ []) (hn : n = A.length) (hm : m = A.length * 19) (hc : cs = A.flatMap encK)
    (hf : ∀ p ∈ ([(0, .g (qC s)), (1, .c x), (2, .c (.p H.length 0 0)), (4, .c (.p (H.length + 1) 0 0)), (5, .c (.p (H.length + 2) 0 0)), (6, .c (.i k)), (7, .c (.i lev)), (8, .c (.u ppn))] : Fr), Am.get fr p.1 = p.2) :
    Wk z fr (H ++ .own (qC s) :: .own [.nils, .i 0, .i 0, .u 0#64, .i 0, .u 0#64, .i 0] :: .own [.sl (H.length + 4) 0 m n, .i 0, .i 0, .u 0#64, .i 0, .u 0#64, .i ag] :: d :: .vec 19 cs :: X)
      ([(0, .g (qC s)), (1, .c x), (2, .c (.p H.length 0 0)), (4, .c (.p (H.length + 1) 0 0)), (5, .c (.p (H.length + 2) 0 0)), (6, .c (.i k)), (7, .c (.i lev)), (8, .c (.u ppn))], rnH H s A ag) := by
  subst hn; subst hm; subst hc
  have e : rnH H s A ag = H ++ [.own (qC s), .own [.nils, .i 0, .i 0, .u 0#64, .i 0, .u 0#64, .i 0], .own [.sl (H.length + 4) 0 (A.length * 19) A.length, .i 0, .i 0, .u 0#64, .i 0, .u 0#64, .i ag], .dead, .vec 19 (A.flatMap encK)] := by unfold rnH; rw [if_neg hA]
  have b := rn_bel hH s A ag
  rw [e] at b ⊢
  refine Wk.wk (by simp; omega) hf ?_ (subH_pre H ⟨.inr rfl, .inr rfl, .inr rfl, .inl rfl, .inr rfl, trivial⟩) b
  have hx2 : x.bel (H.length + 5) = true := Sc.bel_mono hx (by omega)
  have ll : (H ++ [AObj.own (qC s), .own [.nils, .i 0, .i 0, .u 0#64, .i 0, .u 0#64, .i 0], .own [.sl (H.length + 4) 0 (A.length * 19) A.length, .i 0, .i 0, .u 0#64, .i 0, .u 0#64, .i ag], .dead, .vec 19 (A.flatMap encK)]).length = H.length + 5 := by simp
  rw [ll]
  simp only [List.all_cons, List.all_nil, Bool.and_true, Bool.and_eq_true, AV.bel]
  refine ⟨rfl, hx2, ?_, ?_, ?_, rfl, rfl, rfl⟩ <;> simp [Sc.bel]

set_option maxRecDepth 100000 in
set_option maxHeartbeats 100000000 in
theorem ok_rrun : FpOk Try.prog 12 s_rrun := by
  refine fp_ok (s := s_rrun) (tab := [(27, .pu s_rmay), (28, .pu s_rentry), (29, .pu s_rin27), (30, .pu s_rkind), (31, .pu s_rppn), (32, .pu s_rlets), (33, .pu s_rmarked), (34, .pu s_rpage)]) hmix (TabOk.cons (e := .pu s_rmay) ok_rmay (TabOk.cons (e := .pu s_rentry) ok_rentry (TabOk.cons (e := .pu s_rin27) ok_rin27 (TabOk.cons (e := .pu s_rkind) ok_rkind (TabOk.cons (e := .pu s_rppn) ok_rppn (TabOk.cons (e := .pu s_rlets) ok_rlets (TabOk.cons (e := .pu s_rmarked) ok_rmarked (TabOk.cons (e := .pu s_rpage) ok_rpage TabOk.nil)))))))) Try.func12 rfl Try.results12 Try.ntmps12 (by kernel_rfl) (by kernel_rfl) len_rrun ?_
  intro args H v H1 h hargs hH
  unfold s_rrun at h
  split at h
  · rename_i ln ro va ac pr su mx x
    split at h
    · rename_i L hL
      split at h
      · rename_i hn
        simp only [Option.some.injEq, Prod.mk.injEq] at h
        obtain ⟨rfl, rfl⟩ := h
        refine ⟨by simp only [List.length_cons, List.length_nil]; decide, ?_⟩
        have bx : x.bel H.length = true := by simp only [List.all_cons, AV.bel, Bool.and_eq_true] at hargs; exact hargs.2.1
        have hx := slP_inv dcN_d hL
        have xl : ∀ e, lenB (.sl e) (.c x) = some (.c (.i L.length)) := by
          intro e
          rcases hx with ⟨rfl, rfl⟩ | ⟨id2, v2, rfl, _, _, _⟩ <;> rfl
        by_cases hmay : signU va 39 = va
        rotate_left
        · have er : resW (qW ln ro va ac pr su mx) (prN L) = ([], 2, e0C, 0) := if_neg hmay
          rw [er]
          (try simp (config := { maxSteps := 10000000 }) only [go_sem, List.reduceReplicate, BitVec.reduceOfInt, BitVec.reduceToNat, BitVec.reduceToInt, BitVec.reduceEq, BitVec.reduceLT, BitVec.reduceLE, BitVec.reduceAdd, BitVec.reduceSub, BitVec.reduceMul, BitVec.reduceUDiv, BitVec.reduceUMod, BitVec.reduceAnd, BitVec.reduceOr, BitVec.reduceXOr, BitVec.reduceNot, BitVec.reduceNeg, BitVec.reduceHShiftLeft, BitVec.reduceHShiftRight, Nat.reduceAdd, Nat.reduceMul, Nat.reduceSub, Nat.reduceBEq, Nat.reduceEqDiff, Nat.reduceLeDiff, Nat.reduceLT, Int.reduceLE, Int.reduceLT, Int.reduceAdd, Int.reduceSub, Int.reduceMul, Int.reduceNeg, Int.reduceToNat, Int.reduceEq, ↓reduceIte, reduceCtorEq, s_rmay_eq, s_rentry_eq, s_rin27_eq, s_rkind_eq, s_rppn_eq, s_rlets_eq, s_rmarked_eq, s_rpage_eq, hmay]; repeat (simp (disch := omega) only [w64_d, ipos, ineg, dpos, dneg]; try simp (config := { maxSteps := 10000000 }) only [go_sem, List.reduceReplicate, BitVec.reduceOfInt, BitVec.reduceToNat, BitVec.reduceToInt, BitVec.reduceEq, BitVec.reduceLT, BitVec.reduceLE, BitVec.reduceAdd, BitVec.reduceSub, BitVec.reduceMul, BitVec.reduceUDiv, BitVec.reduceUMod, BitVec.reduceAnd, BitVec.reduceOr, BitVec.reduceXOr, BitVec.reduceNot, BitVec.reduceNeg, BitVec.reduceHShiftLeft, BitVec.reduceHShiftRight, Nat.reduceAdd, Nat.reduceMul, Nat.reduceSub, Nat.reduceBEq, Nat.reduceEqDiff, Nat.reduceLeDiff, Nat.reduceLT, Int.reduceLE, Int.reduceLT, Int.reduceAdd, Int.reduceSub, Int.reduceMul, Int.reduceNeg, Int.reduceToNat, Int.reduceEq, ↓reduceIte, reduceCtorEq, s_rmay_eq, s_rentry_eq, s_rin27_eq, s_rkind_eq, s_rppn_eq, s_rlets_eq, s_rmarked_eq, s_rpage_eq, hmay]))
          exact end_0 hH rfl
        have er : resW (qW ln ro va ac pr su mx) (prN L) = runR (qW ln ro va ac pr su mx) (prN L) 2 ro [] 0 := if_pos hmay
        rw [er]
        generalize hR : runR (qW ln ro va ac pr su mx) (prN L) 2 ro [] 0 = R
        (try simp (config := { maxSteps := 10000000 }) only [go_sem, List.reduceReplicate, BitVec.reduceOfInt, BitVec.reduceToNat, BitVec.reduceToInt, BitVec.reduceEq, BitVec.reduceLT, BitVec.reduceLE, BitVec.reduceAdd, BitVec.reduceSub, BitVec.reduceMul, BitVec.reduceUDiv, BitVec.reduceUMod, BitVec.reduceAnd, BitVec.reduceOr, BitVec.reduceXOr, BitVec.reduceNot, BitVec.reduceNeg, BitVec.reduceHShiftLeft, BitVec.reduceHShiftRight, Nat.reduceAdd, Nat.reduceMul, Nat.reduceSub, Nat.reduceBEq, Nat.reduceEqDiff, Nat.reduceLeDiff, Nat.reduceLT, Int.reduceLE, Int.reduceLT, Int.reduceAdd, Int.reduceSub, Int.reduceMul, Int.reduceNeg, Int.reduceToNat, Int.reduceEq, ↓reduceIte, reduceCtorEq, s_rmay_eq, s_rentry_eq, s_rin27_eq, s_rkind_eq, s_rppn_eq, s_rlets_eq, s_rmarked_eq, s_rpage_eq, hmay]; repeat (simp (disch := omega) only [w64_d, ipos, ineg, dpos, dneg]; try simp (config := { maxSteps := 10000000 }) only [go_sem, List.reduceReplicate, BitVec.reduceOfInt, BitVec.reduceToNat, BitVec.reduceToInt, BitVec.reduceEq, BitVec.reduceLT, BitVec.reduceLE, BitVec.reduceAdd, BitVec.reduceSub, BitVec.reduceMul, BitVec.reduceUDiv, BitVec.reduceUMod, BitVec.reduceAnd, BitVec.reduceOr, BitVec.reduceXOr, BitVec.reduceNot, BitVec.reduceNeg, BitVec.reduceHShiftLeft, BitVec.reduceHShiftRight, Nat.reduceAdd, Nat.reduceMul, Nat.reduceSub, Nat.reduceBEq, Nat.reduceEqDiff, Nat.reduceLeDiff, Nat.reduceLT, Int.reduceLE, Int.reduceLT, Int.reduceAdd, Int.reduceSub, Int.reduceMul, Int.reduceNeg, Int.reduceToNat, Int.reduceEq, ↓reduceIte, reduceCtorEq, s_rmay_eq, s_rentry_eq, s_rin27_eq, s_rkind_eq, s_rppn_eq, s_rlets_eq, s_rmarked_eq, s_rpage_eq, hmay]))
        rw [arun_loop]
        refine ⟨{st : Nat × Int × BitVec 64 × List AskR × Int // st.1 ≤ L.length ∧ st.2.2.2.1.length ≤ 2 * st.1 ∧ runR (qW ln ro va ac pr su mx) ((prN L).drop st.1) st.2.1 st.2.2.1 st.2.2.2.1 st.2.2.2.2 = R},
          fun st => ([(0, .g (qC (qW ln ro va ac pr su mx))), (1, .c x), (2, .c (.p H.length 0 0)), (4, .c (.p (H.length + 1) 0 0)), (5, .c (.p (H.length + 2) 0 0)), (6, .c (.i st.1.1)), (7, .c (.i st.1.2.1)), (8, .c (.u st.1.2.2.1))],
            rnH H (qW ln ro va ac pr su mx) st.1.2.2.2.1 st.1.2.2.2.2), fun st => L.length - st.1.1, ⟨(0, 2, ro, [], 0), by simp, by simp, by simpa using hR⟩, ?_, ?_⟩
        · refine Wk.wk (by simp [lo, rnH]) (by simp [Am.get, qC, qW]) ?_ ?_ (rn_bel hH _ _ _)
          · have hx2 : x.bel (H.length + 3) = true := Sc.bel_mono bx (by omega)
            have ll : (rnH H (qW ln ro va ac pr su mx) [] 0).length = H.length + 3 := by simp [rnH]
            simp only [ll, List.all_cons, List.all_nil, Bool.and_true, Bool.and_eq_true, AV.bel]
            refine ⟨rfl, hx2, ?_, ?_, ?_, rfl, rfl, rfl⟩ <;> simp [Sc.bel]
          · simp only [rnH, if_true, qC, qW]
            exact subH_refl _
        · rintro ⟨⟨k, lev, ppn, A, ag⟩, hk, hA, hR'⟩
          simp only at hk hA hR'
          simp only
          have loz : H.length ≤ H.length := Nat.le_refl _
          have k0 : (0 : Int) ≤ (k : Int) := by omega
          have ek1 : w64 ((k : Int) + 1) = ((k + 1 : Nat) : Int) := by rw [w64_of (by omega)]; omega
          have ek2 : w64 (((k + 1 : Nat) : Int) + 1) = ((k + 1 + 1 : Nat) : Int) := by rw [w64_of (by omega)]; omega
          have fl : True → (A.flatMap encK).length = A.length * 19 := fun _ => fm_len encK_l A
          have c1 : ((A.length + 1) * 152 ≤ 1099511627776) = True := eq_true <| Nat.le_trans (Nat.mul_le_mul_right 152 (show A.length + 1 ≤ 1000 by omega)) (by decide)
          have c2 : ((A.length + 1 + 1) * 152 ≤ 1099511627776) = True := eq_true <| Nat.le_trans (Nat.mul_le_mul_right 152 (show A.length + 1 + 1 ≤ 1000 by omega)) (by decide)
          have fm7 : ∀ a : AskR, (A ++ [a]).flatMap encK = A.flatMap encK ++ encK a := fun a => by rw [fm_app]; simp
          cases hh : hasW ln (ventryU ppn va lev)
          · have e := run_miss (s := qW ln ro va ac pr su mx) (ppn := ppn) (lev := lev) (A := A) (ag := ag) hh (l := (prN L).drop k)
            rw [hR'] at e
            subst e
            by_cases hA0 : A = []
            · subst hA0
              simp only [rnH, if_true, qC, qW]
              (try simp (config := { maxSteps := 10000000 }) only [go_sem, List.reduceReplicate, BitVec.reduceOfInt, BitVec.reduceToNat, BitVec.reduceToInt, BitVec.reduceEq, BitVec.reduceLT, BitVec.reduceLE, BitVec.reduceAdd, BitVec.reduceSub, BitVec.reduceMul, BitVec.reduceUDiv, BitVec.reduceUMod, BitVec.reduceAnd, BitVec.reduceOr, BitVec.reduceXOr, BitVec.reduceNot, BitVec.reduceNeg, BitVec.reduceHShiftLeft, BitVec.reduceHShiftRight, Nat.reduceAdd, Nat.reduceMul, Nat.reduceSub, Nat.reduceBEq, Nat.reduceEqDiff, Nat.reduceLeDiff, Nat.reduceLT, Int.reduceLE, Int.reduceLT, Int.reduceAdd, Int.reduceSub, Int.reduceMul, Int.reduceNeg, Int.reduceToNat, Int.reduceEq, ↓reduceIte, reduceCtorEq, s_rmay_eq, s_rentry_eq, s_rin27_eq, s_rkind_eq, s_rppn_eq, s_rlets_eq, s_rmarked_eq, s_rpage_eq, hh]; repeat (simp (disch := omega) only [w64_d, ipos, ineg, dpos, dneg]; try simp (config := { maxSteps := 10000000 }) only [go_sem, List.reduceReplicate, BitVec.reduceOfInt, BitVec.reduceToNat, BitVec.reduceToInt, BitVec.reduceEq, BitVec.reduceLT, BitVec.reduceLE, BitVec.reduceAdd, BitVec.reduceSub, BitVec.reduceMul, BitVec.reduceUDiv, BitVec.reduceUMod, BitVec.reduceAnd, BitVec.reduceOr, BitVec.reduceXOr, BitVec.reduceNot, BitVec.reduceNeg, BitVec.reduceHShiftLeft, BitVec.reduceHShiftRight, Nat.reduceAdd, Nat.reduceMul, Nat.reduceSub, Nat.reduceBEq, Nat.reduceEqDiff, Nat.reduceLeDiff, Nat.reduceLT, Int.reduceLE, Int.reduceLT, Int.reduceAdd, Int.reduceSub, Int.reduceMul, Int.reduceNeg, Int.reduceToNat, Int.reduceEq, ↓reduceIte, reduceCtorEq, s_rmay_eq, s_rentry_eq, s_rin27_eq, s_rkind_eq, s_rppn_eq, s_rlets_eq, s_rmarked_eq, s_rpage_eq, hh]))
              exact end_0 hH rfl
            · simp only [rnH, hA0, if_false, qC, qW]
              (try simp (config := { maxSteps := 10000000 }) only [go_sem, List.reduceReplicate, BitVec.reduceOfInt, BitVec.reduceToNat, BitVec.reduceToInt, BitVec.reduceEq, BitVec.reduceLT, BitVec.reduceLE, BitVec.reduceAdd, BitVec.reduceSub, BitVec.reduceMul, BitVec.reduceUDiv, BitVec.reduceUMod, BitVec.reduceAnd, BitVec.reduceOr, BitVec.reduceXOr, BitVec.reduceNot, BitVec.reduceNeg, BitVec.reduceHShiftLeft, BitVec.reduceHShiftRight, Nat.reduceAdd, Nat.reduceMul, Nat.reduceSub, Nat.reduceBEq, Nat.reduceEqDiff, Nat.reduceLeDiff, Nat.reduceLT, Int.reduceLE, Int.reduceLT, Int.reduceAdd, Int.reduceSub, Int.reduceMul, Int.reduceNeg, Int.reduceToNat, Int.reduceEq, ↓reduceIte, reduceCtorEq, s_rmay_eq, s_rentry_eq, s_rin27_eq, s_rkind_eq, s_rppn_eq, s_rlets_eq, s_rmarked_eq, s_rpage_eq, hh]; repeat (simp (disch := omega) only [w64_d, ipos, ineg, dpos, dneg]; try simp (config := { maxSteps := 10000000 }) only [go_sem, List.reduceReplicate, BitVec.reduceOfInt, BitVec.reduceToNat, BitVec.reduceToInt, BitVec.reduceEq, BitVec.reduceLT, BitVec.reduceLE, BitVec.reduceAdd, BitVec.reduceSub, BitVec.reduceMul, BitVec.reduceUDiv, BitVec.reduceUMod, BitVec.reduceAnd, BitVec.reduceOr, BitVec.reduceXOr, BitVec.reduceNot, BitVec.reduceNeg, BitVec.reduceHShiftLeft, BitVec.reduceHShiftRight, Nat.reduceAdd, Nat.reduceMul, Nat.reduceSub, Nat.reduceBEq, Nat.reduceEqDiff, Nat.reduceLeDiff, Nat.reduceLT, Int.reduceLE, Int.reduceLT, Int.reduceAdd, Int.reduceSub, Int.reduceMul, Int.reduceNeg, Int.reduceToNat, Int.reduceEq, ↓reduceIte, reduceCtorEq, s_rmay_eq, s_rentry_eq, s_rin27_eq, s_rkind_eq, s_rppn_eq, s_rlets_eq, s_rmarked_eq, s_rpage_eq, hh]))
              exact end_1 hH hA0 rfl rfl rfl
          by_cases hlt : k < L.length
          rotate_left
          · have hge : ¬ ((k : Int) < (L.length : Int)) := by omega
            have hge2 : (L.length : Int) ≤ (k : Int) := by omega
            rw [pr_end (by omega)] at hR'
            have e := run_nil (s := qW ln ro va ac pr su mx) (ppn := ppn) (lev := lev) (A := A) (ag := ag) hh
            rw [hR'] at e
            subst e
            by_cases hA0 : A = []
            · subst hA0
              simp only [rnH, if_true, qC, qW]
              (try simp (config := { maxSteps := 10000000 }) only [go_sem, List.reduceReplicate, BitVec.reduceOfInt, BitVec.reduceToNat, BitVec.reduceToInt, BitVec.reduceEq, BitVec.reduceLT, BitVec.reduceLE, BitVec.reduceAdd, BitVec.reduceSub, BitVec.reduceMul, BitVec.reduceUDiv, BitVec.reduceUMod, BitVec.reduceAnd, BitVec.reduceOr, BitVec.reduceXOr, BitVec.reduceNot, BitVec.reduceNeg, BitVec.reduceHShiftLeft, BitVec.reduceHShiftRight, Nat.reduceAdd, Nat.reduceMul, Nat.reduceSub, Nat.reduceBEq, Nat.reduceEqDiff, Nat.reduceLeDiff, Nat.reduceLT, Int.reduceLE, Int.reduceLT, Int.reduceAdd, Int.reduceSub, Int.reduceMul, Int.reduceNeg, Int.reduceToNat, Int.reduceEq, ↓reduceIte, reduceCtorEq, s_rmay_eq, s_rentry_eq, s_rin27_eq, s_rkind_eq, s_rppn_eq, s_rlets_eq, s_rmarked_eq, s_rpage_eq, hh, xl, hge2]; repeat (simp (disch := omega) only [w64_d, ipos, ineg, dpos, dneg]; try simp (config := { maxSteps := 10000000 }) only [go_sem, List.reduceReplicate, BitVec.reduceOfInt, BitVec.reduceToNat, BitVec.reduceToInt, BitVec.reduceEq, BitVec.reduceLT, BitVec.reduceLE, BitVec.reduceAdd, BitVec.reduceSub, BitVec.reduceMul, BitVec.reduceUDiv, BitVec.reduceUMod, BitVec.reduceAnd, BitVec.reduceOr, BitVec.reduceXOr, BitVec.reduceNot, BitVec.reduceNeg, BitVec.reduceHShiftLeft, BitVec.reduceHShiftRight, Nat.reduceAdd, Nat.reduceMul, Nat.reduceSub, Nat.reduceBEq, Nat.reduceEqDiff, Nat.reduceLeDiff, Nat.reduceLT, Int.reduceLE, Int.reduceLT, Int.reduceAdd, Int.reduceSub, Int.reduceMul, Int.reduceNeg, Int.reduceToNat, Int.reduceEq, ↓reduceIte, reduceCtorEq, s_rmay_eq, s_rentry_eq, s_rin27_eq, s_rkind_eq, s_rppn_eq, s_rlets_eq, s_rmarked_eq, s_rpage_eq, hh, xl, hge2]))
              exact end_1 hH (by simp) rfl rfl rfl
            · simp only [rnH, hA0, if_false, qC, qW]
              (try simp (config := { maxSteps := 10000000 }) only [go_sem, List.reduceReplicate, BitVec.reduceOfInt, BitVec.reduceToNat, BitVec.reduceToInt, BitVec.reduceEq, BitVec.reduceLT, BitVec.reduceLE, BitVec.reduceAdd, BitVec.reduceSub, BitVec.reduceMul, BitVec.reduceUDiv, BitVec.reduceUMod, BitVec.reduceAnd, BitVec.reduceOr, BitVec.reduceXOr, BitVec.reduceNot, BitVec.reduceNeg, BitVec.reduceHShiftLeft, BitVec.reduceHShiftRight, Nat.reduceAdd, Nat.reduceMul, Nat.reduceSub, Nat.reduceBEq, Nat.reduceEqDiff, Nat.reduceLeDiff, Nat.reduceLT, Int.reduceLE, Int.reduceLT, Int.reduceAdd, Int.reduceSub, Int.reduceMul, Int.reduceNeg, Int.reduceToNat, Int.reduceEq, ↓reduceIte, reduceCtorEq, s_rmay_eq, s_rentry_eq, s_rin27_eq, s_rkind_eq, s_rppn_eq, s_rlets_eq, s_rmarked_eq, s_rpage_eq, hh, xl, hge2, fl, c1]; repeat (simp (disch := omega) only [w64_d, ipos, ineg, dpos, dneg]; try simp (config := { maxSteps := 10000000 }) only [go_sem, List.reduceReplicate, BitVec.reduceOfInt, BitVec.reduceToNat, BitVec.reduceToInt, BitVec.reduceEq, BitVec.reduceLT, BitVec.reduceLE, BitVec.reduceAdd, BitVec.reduceSub, BitVec.reduceMul, BitVec.reduceUDiv, BitVec.reduceUMod, BitVec.reduceAnd, BitVec.reduceOr, BitVec.reduceXOr, BitVec.reduceNot, BitVec.reduceNeg, BitVec.reduceHShiftLeft, BitVec.reduceHShiftRight, Nat.reduceAdd, Nat.reduceMul, Nat.reduceSub, Nat.reduceBEq, Nat.reduceEqDiff, Nat.reduceLeDiff, Nat.reduceLT, Int.reduceLE, Int.reduceLT, Int.reduceAdd, Int.reduceSub, Int.reduceMul, Int.reduceNeg, Int.reduceToNat, Int.reduceEq, ↓reduceIte, reduceCtorEq, s_rmay_eq, s_rentry_eq, s_rin27_eq, s_rkind_eq, s_rppn_eq, s_rlets_eq, s_rmarked_eq, s_rpage_eq, hh, xl, hge2, fl, c1]))
              exact end_1 hH (by simp) (by simp) (by simp; omega) (by rw [fm7]; rfl)
          obtain ⟨a, ha⟩ : ∃ a, L[k]? = some a := ⟨_, List.getElem?_eq_getElem hlt⟩
          have hdr := pr_drop ha
          rw [hdr] at hR'
          rcases hx with ⟨rfl, rfl⟩ | ⟨id2, v2, rfl, hv2, hle2, hcs2⟩
          · simp at hlt
          have lid2 : id2 < H.length := by simpa [Sc.bel] using bx
          have gx2 : ∀ X, hg (H ++ X) id2 = hg H id2 := fun X => hg_lt' lid2
          have hv2 := hv2.symm
          obtain ⟨m, em, _, _⟩ := encN_e a
          have g0 : (hg H id2).cells.getD (k * 42) .any = .u (dN a) := by
            have := slP_cell encN_l hcs2 ha (i := 0) (by decide)
            rw [Nat.add_zero, em] at this
            exact this
          have b0 : k * 42 + 42 ≤ (hg H id2).cells.length := by
            have : (k + 1) * 42 ≤ L.length * 42 := Nat.mul_le_mul_right _ hlt
            omega
          have b1 : k * 42 + 1 ≤ (hg H id2).cells.length := by omega
          have kI : ((k : Int) < (L.length : Int)) := by omega
          have kI2 : ¬ ((L.length : Int) ≤ (k : Int)) := by omega
          by_cases k1 : kindU (dN a) lev = 1
          · have e := run_lead (s := qW ln ro va ac pr su mx) (ppn := ppn) (lev := lev) (A := A) (ag := ag) (g := gN a) (r := (prN L).drop (k + 1)) hh k1
            rw [hR'] at e
            by_cases hA0 : A = []
            · subst hA0
              simp only [rnH, if_true, qC, qW]
              (try simp (config := { maxSteps := 10000000 }) only [go_sem, List.reduceReplicate, BitVec.reduceOfInt, BitVec.reduceToNat, BitVec.reduceToInt, BitVec.reduceEq, BitVec.reduceLT, BitVec.reduceLE, BitVec.reduceAdd, BitVec.reduceSub, BitVec.reduceMul, BitVec.reduceUDiv, BitVec.reduceUMod, BitVec.reduceAnd, BitVec.reduceOr, BitVec.reduceXOr, BitVec.reduceNot, BitVec.reduceNeg, BitVec.reduceHShiftLeft, BitVec.reduceHShiftRight, Nat.reduceAdd, Nat.reduceMul, Nat.reduceSub, Nat.reduceBEq, Nat.reduceEqDiff, Nat.reduceLeDiff, Nat.reduceLT, Int.reduceLE, Int.reduceLT, Int.reduceAdd, Int.reduceSub, Int.reduceMul, Int.reduceNeg, Int.reduceToNat, Int.reduceEq, ↓reduceIte, reduceCtorEq, s_rmay_eq, s_rentry_eq, s_rin27_eq, s_rkind_eq, s_rppn_eq, s_rlets_eq, s_rmarked_eq, s_rpage_eq, hh, xl, kI, kI2, k0, gx2, hv2, g0, b1, ek1, k1]; repeat (simp (disch := omega) only [w64_d, ipos, ineg, dpos, dneg]; try simp (config := { maxSteps := 10000000 }) only [go_sem, List.reduceReplicate, BitVec.reduceOfInt, BitVec.reduceToNat, BitVec.reduceToInt, BitVec.reduceEq, BitVec.reduceLT, BitVec.reduceLE, BitVec.reduceAdd, BitVec.reduceSub, BitVec.reduceMul, BitVec.reduceUDiv, BitVec.reduceUMod, BitVec.reduceAnd, BitVec.reduceOr, BitVec.reduceXOr, BitVec.reduceNot, BitVec.reduceNeg, BitVec.reduceHShiftLeft, BitVec.reduceHShiftRight, Nat.reduceAdd, Nat.reduceMul, Nat.reduceSub, Nat.reduceBEq, Nat.reduceEqDiff, Nat.reduceLeDiff, Nat.reduceLT, Int.reduceLE, Int.reduceLT, Int.reduceAdd, Int.reduceSub, Int.reduceMul, Int.reduceNeg, Int.reduceToNat, Int.reduceEq, ↓reduceIte, reduceCtorEq, s_rmay_eq, s_rentry_eq, s_rin27_eq, s_rkind_eq, s_rppn_eq, s_rlets_eq, s_rmarked_eq, s_rpage_eq, hh, xl, kI, kI2, k0, gx2, hv2, g0, b1, ek1, k1]))
              exact ⟨⟨(k + 1, w64 (lev - 1), cutU (dN a) 10 44, [(7, ventryU ppn va lev, 0#64, 0#64)], ag), by simp only; omega, by simp; omega, e.symm⟩, by simp only; omega, wk_next (s := qW ln ro va ac pr su mx) (A := [(7, ventryU ppn va lev, 0#64, 0#64)]) (k := k + 1) (lev := w64 (lev - 1)) (ppn := cutU (dN a) 10 44) (ag := ag) loz hH bx (by simp) rfl rfl rfl (by simp [Am.get, qC, qW])⟩
            · simp only [rnH, hA0, if_false, qC, qW]
              (try simp (config := { maxSteps := 10000000 }) only [go_sem, List.reduceReplicate, BitVec.reduceOfInt, BitVec.reduceToNat, BitVec.reduceToInt, BitVec.reduceEq, BitVec.reduceLT, BitVec.reduceLE, BitVec.reduceAdd, BitVec.reduceSub, BitVec.reduceMul, BitVec.reduceUDiv, BitVec.reduceUMod, BitVec.reduceAnd, BitVec.reduceOr, BitVec.reduceXOr, BitVec.reduceNot, BitVec.reduceNeg, BitVec.reduceHShiftLeft, BitVec.reduceHShiftRight, Nat.reduceAdd, Nat.reduceMul, Nat.reduceSub, Nat.reduceBEq, Nat.reduceEqDiff, Nat.reduceLeDiff, Nat.reduceLT, Int.reduceLE, Int.reduceLT, Int.reduceAdd, Int.reduceSub, Int.reduceMul, Int.reduceNeg, Int.reduceToNat, Int.reduceEq, ↓reduceIte, reduceCtorEq, s_rmay_eq, s_rentry_eq, s_rin27_eq, s_rkind_eq, s_rppn_eq, s_rlets_eq, s_rmarked_eq, s_rpage_eq, hh, xl, kI, kI2, k0, gx2, hv2, g0, b1, ek1, k1, fl, c1]; repeat (simp (disch := omega) only [w64_d, ipos, ineg, dpos, dneg]; try simp (config := { maxSteps := 10000000 }) only [go_sem, List.reduceReplicate, BitVec.reduceOfInt, BitVec.reduceToNat, BitVec.reduceToInt, BitVec.reduceEq, BitVec.reduceLT, BitVec.reduceLE, BitVec.reduceAdd, BitVec.reduceSub, BitVec.reduceMul, BitVec.reduceUDiv, BitVec.reduceUMod, BitVec.reduceAnd, BitVec.reduceOr, BitVec.reduceXOr, BitVec.reduceNot, BitVec.reduceNeg, BitVec.reduceHShiftLeft, BitVec.reduceHShiftRight, Nat.reduceAdd, Nat.reduceMul, Nat.reduceSub, Nat.reduceBEq, Nat.reduceEqDiff, Nat.reduceLeDiff, Nat.reduceLT, Int.reduceLE, Int.reduceLT, Int.reduceAdd, Int.reduceSub, Int.reduceMul, Int.reduceNeg, Int.reduceToNat, Int.reduceEq, ↓reduceIte, reduceCtorEq, s_rmay_eq, s_rentry_eq, s_rin27_eq, s_rkind_eq, s_rppn_eq, s_rlets_eq, s_rmarked_eq, s_rpage_eq, hh, xl, kI, kI2, k0, gx2, hv2, g0, b1, ek1, k1, fl, c1]))
              exact ⟨⟨(k + 1, w64 (lev - 1), cutU (dN a) 10 44, A ++ [(7, ventryU ppn va lev, 0#64, 0#64)], ag), by simp only; omega, by simp; omega, e.symm⟩, by simp only; omega, wk_next (s := qW ln ro va ac pr su mx) (A := A ++ [(7, ventryU ppn va lev, 0#64, 0#64)]) (k := k + 1) (lev := w64 (lev - 1)) (ppn := cutU (dN a) 10 44) (ag := ag) loz hH bx (by simp) (by simp) (by simp; omega) (by rw [fm7]; rfl) (by simp [Am.get, qC, qW])⟩
          by_cases kz : kindU (dN a) lev = 0
          · have e := run_bad (s := qW ln ro va ac pr su mx) (ppn := ppn) (lev := lev) (A := A) (ag := ag) (g := gN a) (r := (prN L).drop (k + 1)) hh k1 (.inl kz)
            rw [hR'] at e
            subst e
            by_cases hA0 : A = []
            · subst hA0
              simp only [rnH, if_true, qC, qW]
              (try simp (config := { maxSteps := 10000000 }) only [go_sem, List.reduceReplicate, BitVec.reduceOfInt, BitVec.reduceToNat, BitVec.reduceToInt, BitVec.reduceEq, BitVec.reduceLT, BitVec.reduceLE, BitVec.reduceAdd, BitVec.reduceSub, BitVec.reduceMul, BitVec.reduceUDiv, BitVec.reduceUMod, BitVec.reduceAnd, BitVec.reduceOr, BitVec.reduceXOr, BitVec.reduceNot, BitVec.reduceNeg, BitVec.reduceHShiftLeft, BitVec.reduceHShiftRight, Nat.reduceAdd, Nat.reduceMul, Nat.reduceSub, Nat.reduceBEq, Nat.reduceEqDiff, Nat.reduceLeDiff, Nat.reduceLT, Int.reduceLE, Int.reduceLT, Int.reduceAdd, Int.reduceSub, Int.reduceMul, Int.reduceNeg, Int.reduceToNat, Int.reduceEq, ↓reduceIte, reduceCtorEq, s_rmay_eq, s_rentry_eq, s_rin27_eq, s_rkind_eq, s_rppn_eq, s_rlets_eq, s_rmarked_eq, s_rpage_eq, hh, xl, kI, kI2, k0, gx2, hv2, g0, b1, ek1, k1, kz]; repeat (simp (disch := omega) only [w64_d, ipos, ineg, dpos, dneg]; try simp (config := { maxSteps := 10000000 }) only [go_sem, List.reduceReplicate, BitVec.reduceOfInt, BitVec.reduceToNat, BitVec.reduceToInt, BitVec.reduceEq, BitVec.reduceLT, BitVec.reduceLE, BitVec.reduceAdd, BitVec.reduceSub, BitVec.reduceMul, BitVec.reduceUDiv, BitVec.reduceUMod, BitVec.reduceAnd, BitVec.reduceOr, BitVec.reduceXOr, BitVec.reduceNot, BitVec.reduceNeg, BitVec.reduceHShiftLeft, BitVec.reduceHShiftRight, Nat.reduceAdd, Nat.reduceMul, Nat.reduceSub, Nat.reduceBEq, Nat.reduceEqDiff, Nat.reduceLeDiff, Nat.reduceLT, Int.reduceLE, Int.reduceLT, Int.reduceAdd, Int.reduceSub, Int.reduceMul, Int.reduceNeg, Int.reduceToNat, Int.reduceEq, ↓reduceIte, reduceCtorEq, s_rmay_eq, s_rentry_eq, s_rin27_eq, s_rkind_eq, s_rppn_eq, s_rlets_eq, s_rmarked_eq, s_rpage_eq, hh, xl, kI, kI2, k0, gx2, hv2, g0, b1, ek1, k1, kz]))
              exact end_1 hH (by simp) rfl rfl rfl
            · simp only [rnH, hA0, if_false, qC, qW]
              (try simp (config := { maxSteps := 10000000 }) only [go_sem, List.reduceReplicate, BitVec.reduceOfInt, BitVec.reduceToNat, BitVec.reduceToInt, BitVec.reduceEq, BitVec.reduceLT, BitVec.reduceLE, BitVec.reduceAdd, BitVec.reduceSub, BitVec.reduceMul, BitVec.reduceUDiv, BitVec.reduceUMod, BitVec.reduceAnd, BitVec.reduceOr, BitVec.reduceXOr, BitVec.reduceNot, BitVec.reduceNeg, BitVec.reduceHShiftLeft, BitVec.reduceHShiftRight, Nat.reduceAdd, Nat.reduceMul, Nat.reduceSub, Nat.reduceBEq, Nat.reduceEqDiff, Nat.reduceLeDiff, Nat.reduceLT, Int.reduceLE, Int.reduceLT, Int.reduceAdd, Int.reduceSub, Int.reduceMul, Int.reduceNeg, Int.reduceToNat, Int.reduceEq, ↓reduceIte, reduceCtorEq, s_rmay_eq, s_rentry_eq, s_rin27_eq, s_rkind_eq, s_rppn_eq, s_rlets_eq, s_rmarked_eq, s_rpage_eq, hh, xl, kI, kI2, k0, gx2, hv2, g0, b1, ek1, k1, kz, fl, c1]; repeat (simp (disch := omega) only [w64_d, ipos, ineg, dpos, dneg]; try simp (config := { maxSteps := 10000000 }) only [go_sem, List.reduceReplicate, BitVec.reduceOfInt, BitVec.reduceToNat, BitVec.reduceToInt, BitVec.reduceEq, BitVec.reduceLT, BitVec.reduceLE, BitVec.reduceAdd, BitVec.reduceSub, BitVec.reduceMul, BitVec.reduceUDiv, BitVec.reduceUMod, BitVec.reduceAnd, BitVec.reduceOr, BitVec.reduceXOr, BitVec.reduceNot, BitVec.reduceNeg, BitVec.reduceHShiftLeft, BitVec.reduceHShiftRight, Nat.reduceAdd, Nat.reduceMul, Nat.reduceSub, Nat.reduceBEq, Nat.reduceEqDiff, Nat.reduceLeDiff, Nat.reduceLT, Int.reduceLE, Int.reduceLT, Int.reduceAdd, Int.reduceSub, Int.reduceMul, Int.reduceNeg, Int.reduceToNat, Int.reduceEq, ↓reduceIte, reduceCtorEq, s_rmay_eq, s_rentry_eq, s_rin27_eq, s_rkind_eq, s_rppn_eq, s_rlets_eq, s_rmarked_eq, s_rpage_eq, hh, xl, kI, kI2, k0, gx2, hv2, g0, b1, ek1, k1, kz, fl, c1]))
              exact end_1 hH (by simp) (by simp) (by simp; omega) (by rw [fm7]; rfl)
          cases hl : letsB (dN a) ac pr su mx
          · have e := run_bad (s := qW ln ro va ac pr su mx) (ppn := ppn) (lev := lev) (A := A) (ag := ag) (g := gN a) (r := (prN L).drop (k + 1)) hh k1 (.inr hl)
            rw [hR'] at e
            subst e
            by_cases hA0 : A = []
            · subst hA0
              simp only [rnH, if_true, qC, qW]
              (try simp (config := { maxSteps := 10000000 }) only [go_sem, List.reduceReplicate, BitVec.reduceOfInt, BitVec.reduceToNat, BitVec.reduceToInt, BitVec.reduceEq, BitVec.reduceLT, BitVec.reduceLE, BitVec.reduceAdd, BitVec.reduceSub, BitVec.reduceMul, BitVec.reduceUDiv, BitVec.reduceUMod, BitVec.reduceAnd, BitVec.reduceOr, BitVec.reduceXOr, BitVec.reduceNot, BitVec.reduceNeg, BitVec.reduceHShiftLeft, BitVec.reduceHShiftRight, Nat.reduceAdd, Nat.reduceMul, Nat.reduceSub, Nat.reduceBEq, Nat.reduceEqDiff, Nat.reduceLeDiff, Nat.reduceLT, Int.reduceLE, Int.reduceLT, Int.reduceAdd, Int.reduceSub, Int.reduceMul, Int.reduceNeg, Int.reduceToNat, Int.reduceEq, ↓reduceIte, reduceCtorEq, s_rmay_eq, s_rentry_eq, s_rin27_eq, s_rkind_eq, s_rppn_eq, s_rlets_eq, s_rmarked_eq, s_rpage_eq, hh, xl, kI, kI2, k0, gx2, hv2, g0, b1, ek1, k1, kz, hl]; repeat (simp (disch := omega) only [w64_d, ipos, ineg, dpos, dneg]; try simp (config := { maxSteps := 10000000 }) only [go_sem, List.reduceReplicate, BitVec.reduceOfInt, BitVec.reduceToNat, BitVec.reduceToInt, BitVec.reduceEq, BitVec.reduceLT, BitVec.reduceLE, BitVec.reduceAdd, BitVec.reduceSub, BitVec.reduceMul, BitVec.reduceUDiv, BitVec.reduceUMod, BitVec.reduceAnd, BitVec.reduceOr, BitVec.reduceXOr, BitVec.reduceNot, BitVec.reduceNeg, BitVec.reduceHShiftLeft, BitVec.reduceHShiftRight, Nat.reduceAdd, Nat.reduceMul, Nat.reduceSub, Nat.reduceBEq, Nat.reduceEqDiff, Nat.reduceLeDiff, Nat.reduceLT, Int.reduceLE, Int.reduceLT, Int.reduceAdd, Int.reduceSub, Int.reduceMul, Int.reduceNeg, Int.reduceToNat, Int.reduceEq, ↓reduceIte, reduceCtorEq, s_rmay_eq, s_rentry_eq, s_rin27_eq, s_rkind_eq, s_rppn_eq, s_rlets_eq, s_rmarked_eq, s_rpage_eq, hh, xl, kI, kI2, k0, gx2, hv2, g0, b1, ek1, k1, kz, hl]))
              exact end_1 hH (by simp) rfl rfl rfl
            · simp only [rnH, hA0, if_false, qC, qW]
              (try simp (config := { maxSteps := 10000000 }) only [go_sem, List.reduceReplicate, BitVec.reduceOfInt, BitVec.reduceToNat, BitVec.reduceToInt, BitVec.reduceEq, BitVec.reduceLT, BitVec.reduceLE, BitVec.reduceAdd, BitVec.reduceSub, BitVec.reduceMul, BitVec.reduceUDiv, BitVec.reduceUMod, BitVec.reduceAnd, BitVec.reduceOr, BitVec.reduceXOr, BitVec.reduceNot, BitVec.reduceNeg, BitVec.reduceHShiftLeft, BitVec.reduceHShiftRight, Nat.reduceAdd, Nat.reduceMul, Nat.reduceSub, Nat.reduceBEq, Nat.reduceEqDiff, Nat.reduceLeDiff, Nat.reduceLT, Int.reduceLE, Int.reduceLT, Int.reduceAdd, Int.reduceSub, Int.reduceMul, Int.reduceNeg, Int.reduceToNat, Int.reduceEq, ↓reduceIte, reduceCtorEq, s_rmay_eq, s_rentry_eq, s_rin27_eq, s_rkind_eq, s_rppn_eq, s_rlets_eq, s_rmarked_eq, s_rpage_eq, hh, xl, kI, kI2, k0, gx2, hv2, g0, b1, ek1, k1, kz, hl, fl, c1]; repeat (simp (disch := omega) only [w64_d, ipos, ineg, dpos, dneg]; try simp (config := { maxSteps := 10000000 }) only [go_sem, List.reduceReplicate, BitVec.reduceOfInt, BitVec.reduceToNat, BitVec.reduceToInt, BitVec.reduceEq, BitVec.reduceLT, BitVec.reduceLE, BitVec.reduceAdd, BitVec.reduceSub, BitVec.reduceMul, BitVec.reduceUDiv, BitVec.reduceUMod, BitVec.reduceAnd, BitVec.reduceOr, BitVec.reduceXOr, BitVec.reduceNot, BitVec.reduceNeg, BitVec.reduceHShiftLeft, BitVec.reduceHShiftRight, Nat.reduceAdd, Nat.reduceMul, Nat.reduceSub, Nat.reduceBEq, Nat.reduceEqDiff, Nat.reduceLeDiff, Nat.reduceLT, Int.reduceLE, Int.reduceLT, Int.reduceAdd, Int.reduceSub, Int.reduceMul, Int.reduceNeg, Int.reduceToNat, Int.reduceEq, ↓reduceIte, reduceCtorEq, s_rmay_eq, s_rentry_eq, s_rin27_eq, s_rkind_eq, s_rppn_eq, s_rlets_eq, s_rmarked_eq, s_rpage_eq, hh, xl, kI, kI2, k0, gx2, hv2, g0, b1, ek1, k1, kz, hl, fl, c1]))
              exact end_1 hH (by simp) (by simp) (by simp; omega) (by rw [fm7]; rfl)
          by_cases hm : markU (dN a) ac = dN a
          · have e := run_found (s := qW ln ro va ac pr su mx) (ppn := ppn) (lev := lev) (A := A) (ag := ag) (g := gN a) (r := (prN L).drop (k + 1)) hh k1 kz hl hm
            rw [hR'] at e
            subst e
            by_cases hA0 : A = []
            · subst hA0
              simp only [rnH, if_true, qC, qW]
              (try simp (config := { maxSteps := 10000000 }) only [go_sem, List.reduceReplicate, BitVec.reduceOfInt, BitVec.reduceToNat, BitVec.reduceToInt, BitVec.reduceEq, BitVec.reduceLT, BitVec.reduceLE, BitVec.reduceAdd, BitVec.reduceSub, BitVec.reduceMul, BitVec.reduceUDiv, BitVec.reduceUMod, BitVec.reduceAnd, BitVec.reduceOr, BitVec.reduceXOr, BitVec.reduceNot, BitVec.reduceNeg, BitVec.reduceHShiftLeft, BitVec.reduceHShiftRight, Nat.reduceAdd, Nat.reduceMul, Nat.reduceSub, Nat.reduceBEq, Nat.reduceEqDiff, Nat.reduceLeDiff, Nat.reduceLT, Int.reduceLE, Int.reduceLT, Int.reduceAdd, Int.reduceSub, Int.reduceMul, Int.reduceNeg, Int.reduceToNat, Int.reduceEq, ↓reduceIte, reduceCtorEq, s_rmay_eq, s_rentry_eq, s_rin27_eq, s_rkind_eq, s_rppn_eq, s_rlets_eq, s_rmarked_eq, s_rpage_eq, hh, xl, kI, kI2, k0, gx2, hv2, g0, b1, ek1, k1, kz, hl, hm]; repeat (simp (disch := omega) only [w64_d, ipos, ineg, dpos, dneg]; try simp (config := { maxSteps := 10000000 }) only [go_sem, List.reduceReplicate, BitVec.reduceOfInt, BitVec.reduceToNat, BitVec.reduceToInt, BitVec.reduceEq, BitVec.reduceLT, BitVec.reduceLE, BitVec.reduceAdd, BitVec.reduceSub, BitVec.reduceMul, BitVec.reduceUDiv, BitVec.reduceUMod, BitVec.reduceAnd, BitVec.reduceOr, BitVec.reduceXOr, BitVec.reduceNot, BitVec.reduceNeg, BitVec.reduceHShiftLeft, BitVec.reduceHShiftRight, Nat.reduceAdd, Nat.reduceMul, Nat.reduceSub, Nat.reduceBEq, Nat.reduceEqDiff, Nat.reduceLeDiff, Nat.reduceLT, Int.reduceLE, Int.reduceLT, Int.reduceAdd, Int.reduceSub, Int.reduceMul, Int.reduceNeg, Int.reduceToNat, Int.reduceEq, ↓reduceIte, reduceCtorEq, s_rmay_eq, s_rentry_eq, s_rin27_eq, s_rkind_eq, s_rppn_eq, s_rlets_eq, s_rmarked_eq, s_rpage_eq, hh, xl, kI, kI2, k0, gx2, hv2, g0, b1, ek1, k1, kz, hl, hm]))
              exact end_1 hH (by simp) rfl rfl rfl
            · simp only [rnH, hA0, if_false, qC, qW]
              (try simp (config := { maxSteps := 10000000 }) only [go_sem, List.reduceReplicate, BitVec.reduceOfInt, BitVec.reduceToNat, BitVec.reduceToInt, BitVec.reduceEq, BitVec.reduceLT, BitVec.reduceLE, BitVec.reduceAdd, BitVec.reduceSub, BitVec.reduceMul, BitVec.reduceUDiv, BitVec.reduceUMod, BitVec.reduceAnd, BitVec.reduceOr, BitVec.reduceXOr, BitVec.reduceNot, BitVec.reduceNeg, BitVec.reduceHShiftLeft, BitVec.reduceHShiftRight, Nat.reduceAdd, Nat.reduceMul, Nat.reduceSub, Nat.reduceBEq, Nat.reduceEqDiff, Nat.reduceLeDiff, Nat.reduceLT, Int.reduceLE, Int.reduceLT, Int.reduceAdd, Int.reduceSub, Int.reduceMul, Int.reduceNeg, Int.reduceToNat, Int.reduceEq, ↓reduceIte, reduceCtorEq, s_rmay_eq, s_rentry_eq, s_rin27_eq, s_rkind_eq, s_rppn_eq, s_rlets_eq, s_rmarked_eq, s_rpage_eq, hh, xl, kI, kI2, k0, gx2, hv2, g0, b1, ek1, k1, kz, hl, hm, fl, c1]; repeat (simp (disch := omega) only [w64_d, ipos, ineg, dpos, dneg]; try simp (config := { maxSteps := 10000000 }) only [go_sem, List.reduceReplicate, BitVec.reduceOfInt, BitVec.reduceToNat, BitVec.reduceToInt, BitVec.reduceEq, BitVec.reduceLT, BitVec.reduceLE, BitVec.reduceAdd, BitVec.reduceSub, BitVec.reduceMul, BitVec.reduceUDiv, BitVec.reduceUMod, BitVec.reduceAnd, BitVec.reduceOr, BitVec.reduceXOr, BitVec.reduceNot, BitVec.reduceNeg, BitVec.reduceHShiftLeft, BitVec.reduceHShiftRight, Nat.reduceAdd, Nat.reduceMul, Nat.reduceSub, Nat.reduceBEq, Nat.reduceEqDiff, Nat.reduceLeDiff, Nat.reduceLT, Int.reduceLE, Int.reduceLT, Int.reduceAdd, Int.reduceSub, Int.reduceMul, Int.reduceNeg, Int.reduceToNat, Int.reduceEq, ↓reduceIte, reduceCtorEq, s_rmay_eq, s_rentry_eq, s_rin27_eq, s_rkind_eq, s_rppn_eq, s_rlets_eq, s_rmarked_eq, s_rpage_eq, hh, xl, kI, kI2, k0, gx2, hv2, g0, b1, ek1, k1, kz, hl, hm, fl, c1]))
              exact end_1 hH (by simp) (by simp) (by simp; omega) (by rw [fm7]; rfl)
          have fm8 : ∀ a b : AskR, (A ++ [a] ++ [b]).flatMap encK = A.flatMap encK ++ (encK a ++ encK b) := fun a b => by rw [fm_app, fm_app]; simp
          have fm9 : ∀ a b : AskR, (A ++ [a, b]).flatMap encK = A.flatMap encK ++ (encK a ++ encK b) := fun a b => by rw [fm_app]; simp
          by_cases hlt2 : k + 1 < L.length
          rotate_left
          · have hge2 : (L.length : Int) ≤ ((k + 1 : Nat) : Int) := by omega
            rw [pr_end (by omega)] at hR'
            have e := run_wait (s := qW ln ro va ac pr su mx) (ppn := ppn) (lev := lev) (A := A) (ag := ag) (g := gN a) hh k1 kz hl hm
            rw [hR'] at e
            subst e
            by_cases hA0 : A = []
            · subst hA0
              simp only [rnH, if_true, qC, qW]
              (try simp (config := { maxSteps := 10000000 }) only [go_sem, List.reduceReplicate, BitVec.reduceOfInt, BitVec.reduceToNat, BitVec.reduceToInt, BitVec.reduceEq, BitVec.reduceLT, BitVec.reduceLE, BitVec.reduceAdd, BitVec.reduceSub, BitVec.reduceMul, BitVec.reduceUDiv, BitVec.reduceUMod, BitVec.reduceAnd, BitVec.reduceOr, BitVec.reduceXOr, BitVec.reduceNot, BitVec.reduceNeg, BitVec.reduceHShiftLeft, BitVec.reduceHShiftRight, Nat.reduceAdd, Nat.reduceMul, Nat.reduceSub, Nat.reduceBEq, Nat.reduceEqDiff, Nat.reduceLeDiff, Nat.reduceLT, Int.reduceLE, Int.reduceLT, Int.reduceAdd, Int.reduceSub, Int.reduceMul, Int.reduceNeg, Int.reduceToNat, Int.reduceEq, ↓reduceIte, reduceCtorEq, s_rmay_eq, s_rentry_eq, s_rin27_eq, s_rkind_eq, s_rppn_eq, s_rlets_eq, s_rmarked_eq, s_rpage_eq, hh, xl, kI, kI2, k0, gx2, hv2, g0, b1, ek1, k1, kz, hl, hm, hge2]; repeat (simp (disch := omega) only [w64_d, ipos, ineg, dpos, dneg]; try simp (config := { maxSteps := 10000000 }) only [go_sem, List.reduceReplicate, BitVec.reduceOfInt, BitVec.reduceToNat, BitVec.reduceToInt, BitVec.reduceEq, BitVec.reduceLT, BitVec.reduceLE, BitVec.reduceAdd, BitVec.reduceSub, BitVec.reduceMul, BitVec.reduceUDiv, BitVec.reduceUMod, BitVec.reduceAnd, BitVec.reduceOr, BitVec.reduceXOr, BitVec.reduceNot, BitVec.reduceNeg, BitVec.reduceHShiftLeft, BitVec.reduceHShiftRight, Nat.reduceAdd, Nat.reduceMul, Nat.reduceSub, Nat.reduceBEq, Nat.reduceEqDiff, Nat.reduceLeDiff, Nat.reduceLT, Int.reduceLE, Int.reduceLT, Int.reduceAdd, Int.reduceSub, Int.reduceMul, Int.reduceNeg, Int.reduceToNat, Int.reduceEq, ↓reduceIte, reduceCtorEq, s_rmay_eq, s_rentry_eq, s_rin27_eq, s_rkind_eq, s_rppn_eq, s_rlets_eq, s_rmarked_eq, s_rpage_eq, hh, xl, kI, kI2, k0, gx2, hv2, g0, b1, ek1, k1, kz, hl, hm, hge2]))
              exact end_1 hH (by simp) rfl rfl rfl
            · simp only [rnH, hA0, if_false, qC, qW]
              (try simp (config := { maxSteps := 10000000 }) only [go_sem, List.reduceReplicate, BitVec.reduceOfInt, BitVec.reduceToNat, BitVec.reduceToInt, BitVec.reduceEq, BitVec.reduceLT, BitVec.reduceLE, BitVec.reduceAdd, BitVec.reduceSub, BitVec.reduceMul, BitVec.reduceUDiv, BitVec.reduceUMod, BitVec.reduceAnd, BitVec.reduceOr, BitVec.reduceXOr, BitVec.reduceNot, BitVec.reduceNeg, BitVec.reduceHShiftLeft, BitVec.reduceHShiftRight, Nat.reduceAdd, Nat.reduceMul, Nat.reduceSub, Nat.reduceBEq, Nat.reduceEqDiff, Nat.reduceLeDiff, Nat.reduceLT, Int.reduceLE, Int.reduceLT, Int.reduceAdd, Int.reduceSub, Int.reduceMul, Int.reduceNeg, Int.reduceToNat, Int.reduceEq, ↓reduceIte, reduceCtorEq, s_rmay_eq, s_rentry_eq, s_rin27_eq, s_rkind_eq, s_rppn_eq, s_rlets_eq, s_rmarked_eq, s_rpage_eq, hh, xl, kI, kI2, k0, gx2, hv2, g0, b1, ek1, k1, kz, hl, hm, hge2, fl, c1, c2]; repeat (simp (disch := omega) only [w64_d, ipos, ineg, dpos, dneg]; try simp (config := { maxSteps := 10000000 }) only [go_sem, List.reduceReplicate, BitVec.reduceOfInt, BitVec.reduceToNat, BitVec.reduceToInt, BitVec.reduceEq, BitVec.reduceLT, BitVec.reduceLE, BitVec.reduceAdd, BitVec.reduceSub, BitVec.reduceMul, BitVec.reduceUDiv, BitVec.reduceUMod, BitVec.reduceAnd, BitVec.reduceOr, BitVec.reduceXOr, BitVec.reduceNot, BitVec.reduceNeg, BitVec.reduceHShiftLeft, BitVec.reduceHShiftRight, Nat.reduceAdd, Nat.reduceMul, Nat.reduceSub, Nat.reduceBEq, Nat.reduceEqDiff, Nat.reduceLeDiff, Nat.reduceLT, Int.reduceLE, Int.reduceLT, Int.reduceAdd, Int.reduceSub, Int.reduceMul, Int.reduceNeg, Int.reduceToNat, Int.reduceEq, ↓reduceIte, reduceCtorEq, s_rmay_eq, s_rentry_eq, s_rin27_eq, s_rkind_eq, s_rppn_eq, s_rlets_eq, s_rmarked_eq, s_rpage_eq, hh, xl, kI, kI2, k0, gx2, hv2, g0, b1, ek1, k1, kz, hl, hm, hge2, fl, c1, c2]))
              exact end_1 hH (by simp) (by simp) (by simp; omega) (by first | (rw [fm8]; rfl) | (rw [fm9]; rfl))
          obtain ⟨a2, ha2⟩ : ∃ a, L[k + 1]? = some a := ⟨_, List.getElem?_eq_getElem hlt2⟩
          have hdr2 := pr_drop ha2
          rw [hdr2] at hR'
          obtain ⟨m2, em2, _, _⟩ := encN_e a2
          have h0 : (hg H id2).cells.getD ((k + 1) * 42 + 1) .any = .b (gN a2) := by
            have := slP_cell encN_l hcs2 ha2 (i := 1) (by decide)
            rw [em2] at this
            exact this
          have d0 : (k + 1) * 42 + 42 ≤ (hg H id2).cells.length := by
            have : (k + 2) * 42 ≤ L.length * 42 := Nat.mul_le_mul_right _ (show k + 2 ≤ L.length from hlt2)
            exact Nat.le_trans (show (k + 1) * 42 + 42 ≤ (k + 2) * 42 by omega) (Nat.le_trans this hle2)
          have d1 : ((k + 1) * 42 + 1 + 1 ≤ (hg H id2).cells.length) = True := eq_true (Nat.le_trans (by omega) d0)
          have d2 : ((k + 1) * 42 + 2 ≤ (hg H id2).cells.length) = True := eq_true (Nat.le_trans (by omega) d0)
          clear d0
          have kJ : (((k + 1 : Nat) : Int) < (L.length : Int)) := by omega
          have kJ2 : ¬ ((L.length : Int) ≤ ((k + 1 : Nat) : Int)) := by omega
          have kJ0 : (0 : Int) ≤ ((k + 1 : Nat) : Int) := by omega
          have kJn : (((k + 1 : Nat) : Int)).toNat = k + 1 := by omega
          cases hgd : gN a2
          · rw [hgd] at hR' h0
            have e := run_again (s := qW ln ro va ac pr su mx) (ppn := ppn) (lev := lev) (A := A) (ag := ag) (g := gN a) (d2 := dN a2) (r := (prN L).drop (k + 1 + 1)) hh k1 kz hl hm
            rw [hR'] at e
            by_cases hA0 : A = []
            · subst hA0
              simp only [rnH, if_true, qC, qW]
              (try simp (config := { maxSteps := 10000000 }) only [go_sem, List.reduceReplicate, BitVec.reduceOfInt, BitVec.reduceToNat, BitVec.reduceToInt, BitVec.reduceEq, BitVec.reduceLT, BitVec.reduceLE, BitVec.reduceAdd, BitVec.reduceSub, BitVec.reduceMul, BitVec.reduceUDiv, BitVec.reduceUMod, BitVec.reduceAnd, BitVec.reduceOr, BitVec.reduceXOr, BitVec.reduceNot, BitVec.reduceNeg, BitVec.reduceHShiftLeft, BitVec.reduceHShiftRight, Nat.reduceAdd, Nat.reduceMul, Nat.reduceSub, Nat.reduceBEq, Nat.reduceEqDiff, Nat.reduceLeDiff, Nat.reduceLT, Int.reduceLE, Int.reduceLT, Int.reduceAdd, Int.reduceSub, Int.reduceMul, Int.reduceNeg, Int.reduceToNat, Int.reduceEq, ↓reduceIte, reduceCtorEq, s_rmay_eq, s_rentry_eq, s_rin27_eq, s_rkind_eq, s_rppn_eq, s_rlets_eq, s_rmarked_eq, s_rpage_eq, hh, xl, kI, kI2, k0, gx2, hv2, g0, b1, ek1, ek2, k1, kz, hl, hm, kJ, kJ2, kJ0, kJn, h0, d1, d2]; repeat (simp (disch := omega) only [w64_d, ipos, ineg, dpos, dneg]; try simp (config := { maxSteps := 10000000 }) only [go_sem, List.reduceReplicate, BitVec.reduceOfInt, BitVec.reduceToNat, BitVec.reduceToInt, BitVec.reduceEq, BitVec.reduceLT, BitVec.reduceLE, BitVec.reduceAdd, BitVec.reduceSub, BitVec.reduceMul, BitVec.reduceUDiv, BitVec.reduceUMod, BitVec.reduceAnd, BitVec.reduceOr, BitVec.reduceXOr, BitVec.reduceNot, BitVec.reduceNeg, BitVec.reduceHShiftLeft, BitVec.reduceHShiftRight, Nat.reduceAdd, Nat.reduceMul, Nat.reduceSub, Nat.reduceBEq, Nat.reduceEqDiff, Nat.reduceLeDiff, Nat.reduceLT, Int.reduceLE, Int.reduceLT, Int.reduceAdd, Int.reduceSub, Int.reduceMul, Int.reduceNeg, Int.reduceToNat, Int.reduceEq, ↓reduceIte, reduceCtorEq, s_rmay_eq, s_rentry_eq, s_rin27_eq, s_rkind_eq, s_rppn_eq, s_rlets_eq, s_rmarked_eq, s_rpage_eq, hh, xl, kI, kI2, k0, gx2, hv2, g0, b1, ek1, ek2, k1, kz, hl, hm, kJ, kJ2, kJ0, kJn, h0, d1, d2]))
              exact ⟨⟨(k + 1 + 1, 2, ro, [(7, ventryU ppn va lev, 0#64, 0#64), (8, ventryU ppn va lev, markU (dN a) ac, dN a)], w64 (ag + 1)), by simp only; omega, by simp; omega, e.symm⟩, by simp only; omega, wk_next (s := qW ln ro va ac pr su mx) (A := [(7, ventryU ppn va lev, 0#64, 0#64), (8, ventryU ppn va lev, markU (dN a) ac, dN a)]) (k := k + 1 + 1) (lev := 2) (ppn := ro) (ag := w64 (ag + 1)) loz hH bx (by simp) rfl rfl rfl (by simp [Am.get, qC, qW])⟩
            · simp only [rnH, hA0, if_false, qC, qW]
              (try simp (config := { maxSteps := 10000000 }) only [go_sem, List.reduceReplicate, BitVec.reduceOfInt, BitVec.reduceToNat, BitVec.reduceToInt, BitVec.reduceEq, BitVec.reduceLT, BitVec.reduceLE, BitVec.reduceAdd, BitVec.reduceSub, BitVec.reduceMul, BitVec.reduceUDiv, BitVec.reduceUMod, BitVec.reduceAnd, BitVec.reduceOr, BitVec.reduceXOr, BitVec.reduceNot, BitVec.reduceNeg, BitVec.reduceHShiftLeft, BitVec.reduceHShiftRight, Nat.reduceAdd, Nat.reduceMul, Nat.reduceSub, Nat.reduceBEq, Nat.reduceEqDiff, Nat.reduceLeDiff, Nat.reduceLT, Int.reduceLE, Int.reduceLT, Int.reduceAdd, Int.reduceSub, Int.reduceMul, Int.reduceNeg, Int.reduceToNat, Int.reduceEq, ↓reduceIte, reduceCtorEq, s_rmay_eq, s_rentry_eq, s_rin27_eq, s_rkind_eq, s_rppn_eq, s_rlets_eq, s_rmarked_eq, s_rpage_eq, hh, xl, kI, kI2, k0, gx2, hv2, g0, b1, ek1, ek2, k1, kz, hl, hm, kJ, kJ2, kJ0, kJn, h0, d1, d2, fl, c1, c2]; repeat (simp (disch := omega) only [w64_d, ipos, ineg, dpos, dneg]; try simp (config := { maxSteps := 10000000 }) only [go_sem, List.reduceReplicate, BitVec.reduceOfInt, BitVec.reduceToNat, BitVec.reduceToInt, BitVec.reduceEq, BitVec.reduceLT, BitVec.reduceLE, BitVec.reduceAdd, BitVec.reduceSub, BitVec.reduceMul, BitVec.reduceUDiv, BitVec.reduceUMod, BitVec.reduceAnd, BitVec.reduceOr, BitVec.reduceXOr, BitVec.reduceNot, BitVec.reduceNeg, BitVec.reduceHShiftLeft, BitVec.reduceHShiftRight, Nat.reduceAdd, Nat.reduceMul, Nat.reduceSub, Nat.reduceBEq, Nat.reduceEqDiff, Nat.reduceLeDiff, Nat.reduceLT, Int.reduceLE, Int.reduceLT, Int.reduceAdd, Int.reduceSub, Int.reduceMul, Int.reduceNeg, Int.reduceToNat, Int.reduceEq, ↓reduceIte, reduceCtorEq, s_rmay_eq, s_rentry_eq, s_rin27_eq, s_rkind_eq, s_rppn_eq, s_rlets_eq, s_rmarked_eq, s_rpage_eq, hh, xl, kI, kI2, k0, gx2, hv2, g0, b1, ek1, ek2, k1, kz, hl, hm, kJ, kJ2, kJ0, kJn, h0, d1, d2, fl, c1, c2]))
              exact ⟨⟨(k + 1 + 1, 2, ro, A ++ [(7, ventryU ppn va lev, 0#64, 0#64)] ++ [(8, ventryU ppn va lev, markU (dN a) ac, dN a)], w64 (ag + 1)), by simp only; omega, by simp; omega, e.symm⟩, by simp only; omega, wk_next (s := qW ln ro va ac pr su mx) (A := A ++ [(7, ventryU ppn va lev, 0#64, 0#64)] ++ [(8, ventryU ppn va lev, markU (dN a) ac, dN a)]) (k := k + 1 + 1) (lev := 2) (ppn := ro) (ag := w64 (ag + 1)) loz hH bx (by simp) (by simp) (by simp; omega) (by first | (rw [fm8]; rfl) | (rw [fm9]; rfl)) (by simp [Am.get, qC, qW])⟩
          · rw [hgd] at hR' h0
            have e := run_good (s := qW ln ro va ac pr su mx) (ppn := ppn) (lev := lev) (A := A) (ag := ag) (g := gN a) (d2 := dN a2) (r := (prN L).drop (k + 1 + 1)) hh k1 kz hl hm
            rw [hR'] at e
            subst e
            by_cases hA0 : A = []
            · subst hA0
              simp only [rnH, if_true, qC, qW]
              (try simp (config := { maxSteps := 10000000 }) only [go_sem, List.reduceReplicate, BitVec.reduceOfInt, BitVec.reduceToNat, BitVec.reduceToInt, BitVec.reduceEq, BitVec.reduceLT, BitVec.reduceLE, BitVec.reduceAdd, BitVec.reduceSub, BitVec.reduceMul, BitVec.reduceUDiv, BitVec.reduceUMod, BitVec.reduceAnd, BitVec.reduceOr, BitVec.reduceXOr, BitVec.reduceNot, BitVec.reduceNeg, BitVec.reduceHShiftLeft, BitVec.reduceHShiftRight, Nat.reduceAdd, Nat.reduceMul, Nat.reduceSub, Nat.reduceBEq, Nat.reduceEqDiff, Nat.reduceLeDiff, Nat.reduceLT, Int.reduceLE, Int.reduceLT, Int.reduceAdd, Int.reduceSub, Int.reduceMul, Int.reduceNeg, Int.reduceToNat, Int.reduceEq, ↓reduceIte, reduceCtorEq, s_rmay_eq, s_rentry_eq, s_rin27_eq, s_rkind_eq, s_rppn_eq, s_rlets_eq, s_rmarked_eq, s_rpage_eq, hh, xl, kI, kI2, k0, gx2, hv2, g0, b1, ek1, ek2, k1, kz, hl, hm, kJ, kJ2, kJ0, kJn, h0, d1, d2]; repeat (simp (disch := omega) only [w64_d, ipos, ineg, dpos, dneg]; try simp (config := { maxSteps := 10000000 }) only [go_sem, List.reduceReplicate, BitVec.reduceOfInt, BitVec.reduceToNat, BitVec.reduceToInt, BitVec.reduceEq, BitVec.reduceLT, BitVec.reduceLE, BitVec.reduceAdd, BitVec.reduceSub, BitVec.reduceMul, BitVec.reduceUDiv, BitVec.reduceUMod, BitVec.reduceAnd, BitVec.reduceOr, BitVec.reduceXOr, BitVec.reduceNot, BitVec.reduceNeg, BitVec.reduceHShiftLeft, BitVec.reduceHShiftRight, Nat.reduceAdd, Nat.reduceMul, Nat.reduceSub, Nat.reduceBEq, Nat.reduceEqDiff, Nat.reduceLeDiff, Nat.reduceLT, Int.reduceLE, Int.reduceLT, Int.reduceAdd, Int.reduceSub, Int.reduceMul, Int.reduceNeg, Int.reduceToNat, Int.reduceEq, ↓reduceIte, reduceCtorEq, s_rmay_eq, s_rentry_eq, s_rin27_eq, s_rkind_eq, s_rppn_eq, s_rlets_eq, s_rmarked_eq, s_rpage_eq, hh, xl, kI, kI2, k0, gx2, hv2, g0, b1, ek1, ek2, k1, kz, hl, hm, kJ, kJ2, kJ0, kJn, h0, d1, d2]))
              exact end_1 hH (by simp) rfl rfl rfl
            · simp only [rnH, hA0, if_false, qC, qW]
              (try simp (config := { maxSteps := 10000000 }) only [go_sem, List.reduceReplicate, BitVec.reduceOfInt, BitVec.reduceToNat, BitVec.reduceToInt, BitVec.reduceEq, BitVec.reduceLT, BitVec.reduceLE, BitVec.reduceAdd, BitVec.reduceSub, BitVec.reduceMul, BitVec.reduceUDiv, BitVec.reduceUMod, BitVec.reduceAnd, BitVec.reduceOr, BitVec.reduceXOr, BitVec.reduceNot, BitVec.reduceNeg, BitVec.reduceHShiftLeft, BitVec.reduceHShiftRight, Nat.reduceAdd, Nat.reduceMul, Nat.reduceSub, Nat.reduceBEq, Nat.reduceEqDiff, Nat.reduceLeDiff, Nat.reduceLT, Int.reduceLE, Int.reduceLT, Int.reduceAdd, Int.reduceSub, Int.reduceMul, Int.reduceNeg, Int.reduceToNat, Int.reduceEq, ↓reduceIte, reduceCtorEq, s_rmay_eq, s_rentry_eq, s_rin27_eq, s_rkind_eq, s_rppn_eq, s_rlets_eq, s_rmarked_eq, s_rpage_eq, hh, xl, kI, kI2, k0, gx2, hv2, g0, b1, ek1, ek2, k1, kz, hl, hm, kJ, kJ2, kJ0, kJn, h0, d1, d2, fl, c1, c2]; repeat (simp (disch := omega) only [w64_d, ipos, ineg, dpos, dneg]; try simp (config := { maxSteps := 10000000 }) only [go_sem, List.reduceReplicate, BitVec.reduceOfInt, BitVec.reduceToNat, BitVec.reduceToInt, BitVec.reduceEq, BitVec.reduceLT, BitVec.reduceLE, BitVec.reduceAdd, BitVec.reduceSub, BitVec.reduceMul, BitVec.reduceUDiv, BitVec.reduceUMod, BitVec.reduceAnd, BitVec.reduceOr, BitVec.reduceXOr, BitVec.reduceNot, BitVec.reduceNeg, BitVec.reduceHShiftLeft, BitVec.reduceHShiftRight, Nat.reduceAdd, Nat.reduceMul, Nat.reduceSub, Nat.reduceBEq, Nat.reduceEqDiff, Nat.reduceLeDiff, Nat.reduceLT, Int.reduceLE, Int.reduceLT, Int.reduceAdd, Int.reduceSub, Int.reduceMul, Int.reduceNeg, Int.reduceToNat, Int.reduceEq, ↓reduceIte, reduceCtorEq, s_rmay_eq, s_rentry_eq, s_rin27_eq, s_rkind_eq, s_rppn_eq, s_rlets_eq, s_rmarked_eq, s_rpage_eq, hh, xl, kI, kI2, k0, gx2, hv2, g0, b1, ek1, ek2, k1, kz, hl, hm, kJ, kJ2, kJ0, kJn, h0, d1, d2, fl, c1, c2]))
              exact end_1 hH (by simp) (by simp) (by simp; omega) (by first | (rw [fm8]; rfl) | (rw [fm9]; rfl))
      · simp at h
    · simp at h
  · simp at h

end
end Go.Proofs.Ytanblagbkhpolaa
