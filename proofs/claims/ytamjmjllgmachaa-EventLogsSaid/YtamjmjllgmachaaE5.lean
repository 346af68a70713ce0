/- Layer 31: a hart's events; are two logs the same: contracts. -/
import Derived.Test.YtamjmjllgmachaaE4
namespace Go.Proofs.Ytamjmjllgmachaa
open Go.Am
set_option linter.unusedSimpArgs false
set_option linter.unusedVariables false
noncomputable section

def mineF (h : Int) (L : List Ev) : List Ev := L.filter fun e => decide (gi e.1 0 = h)
theorem mine_s {h : Int} {L : List Ev} {k : Nat} {e : Ev} (he : L[k]? = some e) : mineF h (L.take (k + 1)) = mineF h (L.take k) ++ (if gi e.1 0 = h then [e] else []) := by
  unfold mineF
  rw [List.take_add_one, he, List.filter_append]
  congr 1
  by_cases hh : gi e.1 0 = h <;> simp [hh]
theorem mine_l (h : Int) (L : List Ev) (k : Nat) : (mineF h (L.take k)).length ≤ k := by
  unfold mineF
  exact Nat.le_trans (List.length_filter_le _ _) (by rw [List.length_take]; omega)
theorem subH_pre {A B : AH} (P : AH) (h : subH A B) : subH (P ++ A) (P ++ B) := by
  induction P with
  | nil => exact h
  | cons o P ih => exact ⟨.inr rfl, ih⟩
theorem fin_e {n : Nat} {v : AV} {H : AH} : ∃ v', some v = some v' ∧ Wk n [(0, v')] H ([(0, v)], H) :=
  ⟨_, rfl, fun ρ _ _ h1 h2 => ⟨ρ, h1, h2, fun i _ hi hL _ => ⟨i, hi, hL⟩, fun _ _ => rfl⟩⟩
theorem len_v {A B : AH} (h : subH A B) : A.length ≤ A.length := Nat.le_refl _
/-- what a hart's events are, as a slice -/
def v_emine (H : AH) (A : List Ev) : Sc := if A = [] then .nils else .sl (H.length + 2) 0 (A.length * 65) A.length
def h_emine (H : AH) (A : List Ev) : AH := if A = [] then H else H ++ [.dead, .dead, .vec 65 (A.flatMap encE)]
theorem hb_emine {H : AH} (hH : belH H = true) (A : List Ev) : belH (h_emine H A) = true := by
  unfold h_emine
  split
  · exact hH
  · unfold belH
    rw [List.all_append, Bool.and_eq_true]
    refine ⟨List.all_eq_true.2 fun o ho => List.all_eq_true.2 fun s hs => ?_, ?_⟩
    · exact Sc.bel_mono (List.all_eq_true.1 (List.all_eq_true.1 hH o ho) s hs) (by simp)
    · simp only [List.all_cons, List.all_nil, Bool.and_true, oc_vec, row_bel, AObj.cells]
def s_emine (args : List AV) (H : AH) : Option (AV × AH) :=
  match args with
  | [.c x, .c (.i h)] =>
    match slD 65 dcE H x with
    | some L => if L.length ≤ 1000000 then some (.c (v_emine H (mineF h L)), h_emine H (mineF h L)) else none
    | none => none
  | _ => none
theorem s_emine_of {x : Sc} {h : Int} {H : AH} {L : List Ev} (e : slD 65 dcE H x = some L) (hl : L.length ≤ 1000000) : s_emine [.c x, .c (.i h)] H = some (.c (v_emine H (mineF h L)), h_emine H (mineF h L)) := by
  simp only [s_emine, e, hl, if_true]
theorem len_emine (args : List AV) (H : AH) (v : AV) (H1 : AH) (h : s_emine args H = some (v, H1)) : H.length ≤ H1.length := by
  unfold s_emine at h
  split at h
  · split at h
    · split at h
      · simp only [Option.some.injEq, Prod.mk.injEq] at h
        rw [← h.2]
        unfold h_emine
        split <;> simp
      · simp at h
    · simp at h
  · simp at h
set_option maxHeartbeats 8000000 in
set_option maxRecDepth 100000 in
set_option maxHeartbeats 2000000 in
theorem ok_emine : FpOk Try.prog 10 s_emine := by
  refine fp_ok (s := s_emine) (tab := []) hmix TabOk.nil Try.func10 rfl Try.results10 Try.ntmps10 (by kernel_rfl) (by kernel_rfl) len_emine ?_
  intro args H v H1 h hargs hH
  unfold s_emine at h
  split at h
  · rename_i x hh
    split at h
    · rename_i L hL
      split at h
      · rename_i hn
        simp only [Option.some.injEq, Prod.mk.injEq] at h
        obtain ⟨rfl, rfl⟩ := h
        refine ⟨by simp only [List.length_cons, List.length_nil]; decide, ?_⟩
        have bx : x.bel H.length = true := by simp only [List.all_cons, AV.bel, Bool.and_eq_true] at hargs; exact hargs.1
        have hx := slD_inv dcE_d hL
        have xl : ∀ e, lenB (.sl e) (.c x) = some (.c (.i L.length)) := by
          intro e
          rcases hx with ⟨rfl, rfl⟩ | ⟨id2, v2, rfl, _, _⟩ <;> rfl
        (try simp (config := { maxSteps := 10000000 }) only [go_sem, List.reduceReplicate, BitVec.reduceOfInt, BitVec.reduceToNat, BitVec.reduceToInt, BitVec.reduceEq, BitVec.reduceLT, BitVec.reduceLE, BitVec.reduceAdd, BitVec.reduceSub, BitVec.reduceMul, BitVec.reduceUDiv, BitVec.reduceUMod, BitVec.reduceAnd, BitVec.reduceOr, BitVec.reduceXOr, BitVec.reduceNot, BitVec.reduceNeg, BitVec.reduceHShiftLeft, BitVec.reduceHShiftRight, Nat.reduceAdd, Nat.reduceMul, Nat.reduceSub, Nat.reduceBEq, Nat.reduceEqDiff, Nat.reduceLeDiff, Nat.reduceLT, Int.reduceLE, Int.reduceLT, Int.reduceAdd, Int.reduceSub, Int.reduceMul, Int.reduceNeg, Int.reduceToNat, Int.reduceEq, ↓reduceIte, reduceCtorEq, xl]; repeat (simp (disch := omega) only [w64_d, ipos, ineg, dpos, dneg]; try simp (config := { maxSteps := 10000000 }) only [go_sem, List.reduceReplicate, BitVec.reduceOfInt, BitVec.reduceToNat, BitVec.reduceToInt, BitVec.reduceEq, BitVec.reduceLT, BitVec.reduceLE, BitVec.reduceAdd, BitVec.reduceSub, BitVec.reduceMul, BitVec.reduceUDiv, BitVec.reduceUMod, BitVec.reduceAnd, BitVec.reduceOr, BitVec.reduceXOr, BitVec.reduceNot, BitVec.reduceNeg, BitVec.reduceHShiftLeft, BitVec.reduceHShiftRight, Nat.reduceAdd, Nat.reduceMul, Nat.reduceSub, Nat.reduceBEq, Nat.reduceEqDiff, Nat.reduceLeDiff, Nat.reduceLT, Int.reduceLE, Int.reduceLT, Int.reduceAdd, Int.reduceSub, Int.reduceMul, Int.reduceNeg, Int.reduceToNat, Int.reduceEq, ↓reduceIte, reduceCtorEq, xl]))
        refine arun_for L.length (fun k => ([(1, .c (.i hh)), (8, .c x), (9, .c (.i L.length)), (5, .c (v_emine H (mineF hh (L.take k)))), (10, .c (.i (k : Nat)))], h_emine H (mineF hh (L.take k)))) ?_ fun k hk => ?_
        · have e0 : mineF hh (L.take 0) = [] := rfl
          simp only [e0, v_emine, h_emine, if_true]
          exact Wk.wk (by simp [lo]) (by simp [Am.get]) (by simp only [List.all_cons, List.all_nil, Bool.and_true, Bool.and_eq_true, AV.bel]; exact ⟨rfl, bx, rfl, rfl, rfl⟩) (subH_refl _) hH
        · have nx : ∀ (fr : Fr) (H2 : AH) (A : List Ev), A = mineF hh (L.take (k + 1)) → subH (h_emine H A) H2 → (∀ p ∈ ([(1, .c (.i hh)), (8, .c x), (9, .c (.i L.length)), (5, .c (v_emine H A)), (10, .c (.i (k + 1 : Nat)))] : Fr), Am.get fr p.1 = p.2) →
              Wk H.length fr H2 ([(1, .c (.i hh)), (8, .c x), (9, .c (.i L.length)), (5, .c (v_emine H (mineF hh (L.take (k + 1))))), (10, .c (.i (k + 1 : Nat)))], h_emine H (mineF hh (L.take (k + 1)))) := by
            intro fr H2 A hA hs hf
            subst hA
            refine Wk.wk (by unfold h_emine; split <;> simp) hf ?_ hs (hb_emine hH _)
            have l1 : H.length ≤ (h_emine H (mineF hh (L.take (k + 1)))).length := by unfold h_emine; split <;> simp
            have hx7 := Sc.bel_mono bx l1
            have bv : (v_emine H (mineF hh (L.take (k + 1)))).bel (h_emine H (mineF hh (L.take (k + 1)))).length = true := by
              unfold v_emine h_emine
              split
              · rfl
              · simp [Sc.bel]
            simp only [List.all_cons, List.all_nil, Bool.and_true, Bool.and_eq_true, AV.bel]
            exact ⟨rfl, hx7, rfl, bv, rfl⟩
          have k0 : (0 : Int) ≤ (k : Int) := by omega
          have hal := mine_l hh L k
          by_cases hlt : k < L.length
          rotate_left
          · obtain rfl : k = L.length := by omega
            have kI : ¬ ((L.length : Int) < (L.length : Int)) := by omega
            rw [List.take_length]
            (try simp (config := { maxSteps := 10000000 }) only [go_sem, List.reduceReplicate, BitVec.reduceOfInt, BitVec.reduceToNat, BitVec.reduceToInt, BitVec.reduceEq, BitVec.reduceLT, BitVec.reduceLE, BitVec.reduceAdd, BitVec.reduceSub, BitVec.reduceMul, BitVec.reduceUDiv, BitVec.reduceUMod, BitVec.reduceAnd, BitVec.reduceOr, BitVec.reduceXOr, BitVec.reduceNot, BitVec.reduceNeg, BitVec.reduceHShiftLeft, BitVec.reduceHShiftRight, Nat.reduceAdd, Nat.reduceMul, Nat.reduceSub, Nat.reduceBEq, Nat.reduceEqDiff, Nat.reduceLeDiff, Nat.reduceLT, Int.reduceLE, Int.reduceLT, Int.reduceAdd, Int.reduceSub, Int.reduceMul, Int.reduceNeg, Int.reduceToNat, Int.reduceEq, ↓reduceIte, reduceCtorEq, xl]; repeat (simp (disch := omega) only [w64_d, ipos, ineg, dpos, dneg]; try simp (config := { maxSteps := 10000000 }) only [go_sem, List.reduceReplicate, BitVec.reduceOfInt, BitVec.reduceToNat, BitVec.reduceToInt, BitVec.reduceEq, BitVec.reduceLT, BitVec.reduceLE, BitVec.reduceAdd, BitVec.reduceSub, BitVec.reduceMul, BitVec.reduceUDiv, BitVec.reduceUMod, BitVec.reduceAnd, BitVec.reduceOr, BitVec.reduceXOr, BitVec.reduceNot, BitVec.reduceNeg, BitVec.reduceHShiftLeft, BitVec.reduceHShiftRight, Nat.reduceAdd, Nat.reduceMul, Nat.reduceSub, Nat.reduceBEq, Nat.reduceEqDiff, Nat.reduceLeDiff, Nat.reduceLT, Int.reduceLE, Int.reduceLT, Int.reduceAdd, Int.reduceSub, Int.reduceMul, Int.reduceNeg, Int.reduceToNat, Int.reduceEq, ↓reduceIte, reduceCtorEq, xl]))
            exact fin_e
          have kI : ((k : Int) < (L.length : Int)) := by omega
          obtain ⟨e, he⟩ : ∃ e, L[k]? = some e := ⟨_, List.getElem?_eq_getElem hlt⟩
          have hst := mine_s (h := hh) he
          have e1 : w64 ((k : Int) + 1) = ((k + 1 : Nat) : Int) := by rw [w64_of (by omega)]; omega
          rcases hx with ⟨rfl, rfl⟩ | ⟨id2, v2, rfl, hv2, hcs2⟩
          · simp at hlt
          have lid2 : id2 < H.length := by simpa [Sc.bel] using bx
          have gx2 : ∀ X, hg (H ++ X) id2 = hg H id2 := fun X => hg_lt' lid2
          have hv2 := hv2.symm
          have b1 : (k * 65 + 65 ≤ (hg H id2).cells.length) = True := eq_true (by rw [hcs2]; exact fm_le encE_l hlt)
          have b2 : (k * 65 + 1 ≤ (hg H id2).cells.length) = True := eq_true (Nat.le_trans (by omega) (of_eq_true b1))
          have g3 : ((hg H id2).cells.drop (k * 65)).take 65 = encE e := by rw [hcs2]; exact fm_get encE_l he
          have f0 := (fit_i e.2 0 rfl).1
          have g0 : (hg H id2).cells.getD (k * 65) .any = .i (gi e.1 0) := by
            have := fm_cell encE_l he (i := 0) (by decide)
            rw [Nat.add_zero] at this
            rw [hcs2, this]; exact f0
          have le : (encE e).length = 65 := encE_l e
          have oe : (encE e).all Sc.one = true := (fit_all e.2).1
          have f0' : (encE e).getD 0 .any = .i (gi e.1 0) := f0
          have te : (encE e).take 65 = encE e := by rw [← le, List.take_length]
          generalize hA : mineF hh (L.take k) = A at hst hal ⊢
          have fl : True → (A.flatMap encE).length = A.length * 65 := fun _ => fm_len encE_l A
          have c1 : ((A.length + 1) * 520 ≤ 1099511627776) = True := eq_true <| Nat.le_trans (Nat.mul_le_mul_right 520 (show A.length + 1 ≤ 1000001 by omega)) (by decide)
          have fa : (A ++ [e]).flatMap encE = A.flatMap encE ++ encE e := by rw [fm_app]; simp
          by_cases hm : gi e.1 0 = hh
          · rw [if_pos hm] at hst
            by_cases hA0 : A = []
            · subst hA0
              simp only [v_emine, h_emine, if_true]
              (try simp (config := { maxSteps := 10000000 }) only [go_sem, List.reduceReplicate, BitVec.reduceOfInt, BitVec.reduceToNat, BitVec.reduceToInt, BitVec.reduceEq, BitVec.reduceLT, BitVec.reduceLE, BitVec.reduceAdd, BitVec.reduceSub, BitVec.reduceMul, BitVec.reduceUDiv, BitVec.reduceUMod, BitVec.reduceAnd, BitVec.reduceOr, BitVec.reduceXOr, BitVec.reduceNot, BitVec.reduceNeg, BitVec.reduceHShiftLeft, BitVec.reduceHShiftRight, Nat.reduceAdd, Nat.reduceMul, Nat.reduceSub, Nat.reduceBEq, Nat.reduceEqDiff, Nat.reduceLeDiff, Nat.reduceLT, Int.reduceLE, Int.reduceLT, Int.reduceAdd, Int.reduceSub, Int.reduceMul, Int.reduceNeg, Int.reduceToNat, Int.reduceEq, ↓reduceIte, reduceCtorEq, xl, kI, k0, e1, gx2, hv2, b1, b2, g3, g0, le, oe, te, f0', hm]; repeat (simp (disch := omega) only [w64_d, ipos, ineg, dpos, dneg]; try simp (config := { maxSteps := 10000000 }) only [go_sem, List.reduceReplicate, BitVec.reduceOfInt, BitVec.reduceToNat, BitVec.reduceToInt, BitVec.reduceEq, BitVec.reduceLT, BitVec.reduceLE, BitVec.reduceAdd, BitVec.reduceSub, BitVec.reduceMul, BitVec.reduceUDiv, BitVec.reduceUMod, BitVec.reduceAnd, BitVec.reduceOr, BitVec.reduceXOr, BitVec.reduceNot, BitVec.reduceNeg, BitVec.reduceHShiftLeft, BitVec.reduceHShiftRight, Nat.reduceAdd, Nat.reduceMul, Nat.reduceSub, Nat.reduceBEq, Nat.reduceEqDiff, Nat.reduceLeDiff, Nat.reduceLT, Int.reduceLE, Int.reduceLT, Int.reduceAdd, Int.reduceSub, Int.reduceMul, Int.reduceNeg, Int.reduceToNat, Int.reduceEq, ↓reduceIte, reduceCtorEq, xl, kI, k0, e1, gx2, hv2, b1, b2, g3, g0, le, oe, te, f0', hm]))
              refine ⟨k + 1, by omega, by omega, nx _ _ [e] (by rw [hst]; rfl) ?_ ?_⟩
              · simp only [h_emine, List.flatMap_cons, List.flatMap_nil, List.append_nil]
                exact subH_pre H ⟨.inl rfl, .inl rfl, .inr rfl, trivial⟩
              · simp [Am.get, v_emine]
            · simp only [v_emine, h_emine, hA0, if_false]
              (try simp (config := { maxSteps := 10000000 }) only [go_sem, List.reduceReplicate, BitVec.reduceOfInt, BitVec.reduceToNat, BitVec.reduceToInt, BitVec.reduceEq, BitVec.reduceLT, BitVec.reduceLE, BitVec.reduceAdd, BitVec.reduceSub, BitVec.reduceMul, BitVec.reduceUDiv, BitVec.reduceUMod, BitVec.reduceAnd, BitVec.reduceOr, BitVec.reduceXOr, BitVec.reduceNot, BitVec.reduceNeg, BitVec.reduceHShiftLeft, BitVec.reduceHShiftRight, Nat.reduceAdd, Nat.reduceMul, Nat.reduceSub, Nat.reduceBEq, Nat.reduceEqDiff, Nat.reduceLeDiff, Nat.reduceLT, Int.reduceLE, Int.reduceLT, Int.reduceAdd, Int.reduceSub, Int.reduceMul, Int.reduceNeg, Int.reduceToNat, Int.reduceEq, ↓reduceIte, reduceCtorEq, xl, kI, k0, e1, gx2, hv2, b1, b2, g3, g0, le, oe, te, f0', hm, fl, c1]; repeat (simp (disch := omega) only [w64_d, ipos, ineg, dpos, dneg]; try simp (config := { maxSteps := 10000000 }) only [go_sem, List.reduceReplicate, BitVec.reduceOfInt, BitVec.reduceToNat, BitVec.reduceToInt, BitVec.reduceEq, BitVec.reduceLT, BitVec.reduceLE, BitVec.reduceAdd, BitVec.reduceSub, BitVec.reduceMul, BitVec.reduceUDiv, BitVec.reduceUMod, BitVec.reduceAnd, BitVec.reduceOr, BitVec.reduceXOr, BitVec.reduceNot, BitVec.reduceNeg, BitVec.reduceHShiftLeft, BitVec.reduceHShiftRight, Nat.reduceAdd, Nat.reduceMul, Nat.reduceSub, Nat.reduceBEq, Nat.reduceEqDiff, Nat.reduceLeDiff, Nat.reduceLT, Int.reduceLE, Int.reduceLT, Int.reduceAdd, Int.reduceSub, Int.reduceMul, Int.reduceNeg, Int.reduceToNat, Int.reduceEq, ↓reduceIte, reduceCtorEq, xl, kI, k0, e1, gx2, hv2, b1, b2, g3, g0, le, oe, te, f0', hm, fl, c1]))
              have hne : A ++ [e] ≠ [] := by simp
              refine ⟨k + 1, by omega, by omega, nx _ _ (A ++ [e]) hst.symm ?_ ?_⟩
              · simp only [h_emine, hne, if_false, fa]
                exact subH_pre H ⟨.inl rfl, .inl rfl, .inr rfl, trivial⟩
              · simp [Am.get, v_emine, Nat.add_mul]
          · rw [if_neg hm, List.append_nil] at hst
            by_cases hA0 : A = []
            · subst hA0
              simp only [v_emine, h_emine, if_true]
              (try simp (config := { maxSteps := 10000000 }) only [go_sem, List.reduceReplicate, BitVec.reduceOfInt, BitVec.reduceToNat, BitVec.reduceToInt, BitVec.reduceEq, BitVec.reduceLT, BitVec.reduceLE, BitVec.reduceAdd, BitVec.reduceSub, BitVec.reduceMul, BitVec.reduceUDiv, BitVec.reduceUMod, BitVec.reduceAnd, BitVec.reduceOr, BitVec.reduceXOr, BitVec.reduceNot, BitVec.reduceNeg, BitVec.reduceHShiftLeft, BitVec.reduceHShiftRight, Nat.reduceAdd, Nat.reduceMul, Nat.reduceSub, Nat.reduceBEq, Nat.reduceEqDiff, Nat.reduceLeDiff, Nat.reduceLT, Int.reduceLE, Int.reduceLT, Int.reduceAdd, Int.reduceSub, Int.reduceMul, Int.reduceNeg, Int.reduceToNat, Int.reduceEq, ↓reduceIte, reduceCtorEq, xl, kI, k0, e1, gx2, hv2, b1, b2, g3, g0, le, oe, te, f0', hm]; repeat (simp (disch := omega) only [w64_d, ipos, ineg, dpos, dneg]; try simp (config := { maxSteps := 10000000 }) only [go_sem, List.reduceReplicate, BitVec.reduceOfInt, BitVec.reduceToNat, BitVec.reduceToInt, BitVec.reduceEq, BitVec.reduceLT, BitVec.reduceLE, BitVec.reduceAdd, BitVec.reduceSub, BitVec.reduceMul, BitVec.reduceUDiv, BitVec.reduceUMod, BitVec.reduceAnd, BitVec.reduceOr, BitVec.reduceXOr, BitVec.reduceNot, BitVec.reduceNeg, BitVec.reduceHShiftLeft, BitVec.reduceHShiftRight, Nat.reduceAdd, Nat.reduceMul, Nat.reduceSub, Nat.reduceBEq, Nat.reduceEqDiff, Nat.reduceLeDiff, Nat.reduceLT, Int.reduceLE, Int.reduceLT, Int.reduceAdd, Int.reduceSub, Int.reduceMul, Int.reduceNeg, Int.reduceToNat, Int.reduceEq, ↓reduceIte, reduceCtorEq, xl, kI, k0, e1, gx2, hv2, b1, b2, g3, g0, le, oe, te, f0', hm]))
              exact ⟨k + 1, by omega, by omega, nx _ _ [] hst.symm (by simp only [h_emine, if_true]; exact subH_app _ _) (by simp [Am.get, v_emine])⟩
            · simp only [v_emine, h_emine, hA0, if_false]
              (try simp (config := { maxSteps := 10000000 }) only [go_sem, List.reduceReplicate, BitVec.reduceOfInt, BitVec.reduceToNat, BitVec.reduceToInt, BitVec.reduceEq, BitVec.reduceLT, BitVec.reduceLE, BitVec.reduceAdd, BitVec.reduceSub, BitVec.reduceMul, BitVec.reduceUDiv, BitVec.reduceUMod, BitVec.reduceAnd, BitVec.reduceOr, BitVec.reduceXOr, BitVec.reduceNot, BitVec.reduceNeg, BitVec.reduceHShiftLeft, BitVec.reduceHShiftRight, Nat.reduceAdd, Nat.reduceMul, Nat.reduceSub, Nat.reduceBEq, Nat.reduceEqDiff, Nat.reduceLeDiff, Nat.reduceLT, Int.reduceLE, Int.reduceLT, Int.reduceAdd, Int.reduceSub, Int.reduceMul, Int.reduceNeg, Int.reduceToNat, Int.reduceEq, ↓reduceIte, reduceCtorEq, xl, kI, k0, e1, gx2, hv2, b1, b2, g3, g0, le, oe, te, f0', hm]; repeat (simp (disch := omega) only [w64_d, ipos, ineg, dpos, dneg]; try simp (config := { maxSteps := 10000000 }) only [go_sem, List.reduceReplicate, BitVec.reduceOfInt, BitVec.reduceToNat, BitVec.reduceToInt, BitVec.reduceEq, BitVec.reduceLT, BitVec.reduceLE, BitVec.reduceAdd, BitVec.reduceSub, BitVec.reduceMul, BitVec.reduceUDiv, BitVec.reduceUMod, BitVec.reduceAnd, BitVec.reduceOr, BitVec.reduceXOr, BitVec.reduceNot, BitVec.reduceNeg, BitVec.reduceHShiftLeft, BitVec.reduceHShiftRight, Nat.reduceAdd, Nat.reduceMul, Nat.reduceSub, Nat.reduceBEq, Nat.reduceEqDiff, Nat.reduceLeDiff, Nat.reduceLT, Int.reduceLE, Int.reduceLT, Int.reduceAdd, Int.reduceSub, Int.reduceMul, Int.reduceNeg, Int.reduceToNat, Int.reduceEq, ↓reduceIte, reduceCtorEq, xl, kI, k0, e1, gx2, hv2, b1, b2, g3, g0, le, oe, te, f0', hm]))
              exact ⟨k + 1, by omega, by omega, nx _ _ A hst.symm (by simp only [h_emine, hA0, if_false]; exact subH_pre H ⟨.inl rfl, .inl rfl, .inr rfl, trivial⟩) (by simp [Am.get, v_emine, hA0])⟩
      · simp at h
    · simp at h
  · simp at h
/-- what a hart's events are, as a slice -/
def v_rmine (H : AH) (A : List Ev) : Sc := if A = [] then .nils else .sl (H.length + 1) 0 (A.length * 65) A.length
def h_rmine (H : AH) (A : List Ev) : AH := if A = [] then H else H ++ [.dead, .vec 65 (A.flatMap encE)]
theorem hb_rmine {H : AH} (hH : belH H = true) (A : List Ev) : belH (h_rmine H A) = true := by
  unfold h_rmine
  split
  · exact hH
  · unfold belH
    rw [List.all_append, Bool.and_eq_true]
    refine ⟨List.all_eq_true.2 fun o ho => List.all_eq_true.2 fun s hs => ?_, ?_⟩
    · exact Sc.bel_mono (List.all_eq_true.1 (List.all_eq_true.1 hH o ho) s hs) (by simp)
    · simp only [List.all_cons, List.all_nil, Bool.and_true, oc_vec, row_bel, AObj.cells]
def s_rmine (args : List AV) (H : AH) : Option (AV × AH) :=
  match args with
  | [.c x, .c (.i h)] =>
    match slD 65 dcE H x with
    | some L => if L.length ≤ 1000000 then some (.c (v_rmine H (mineF h L)), h_rmine H (mineF h L)) else none
    | none => none
  | _ => none
theorem s_rmine_of {x : Sc} {h : Int} {H : AH} {L : List Ev} (e : slD 65 dcE H x = some L) (hl : L.length ≤ 1000000) : s_rmine [.c x, .c (.i h)] H = some (.c (v_rmine H (mineF h L)), h_rmine H (mineF h L)) := by
  simp only [s_rmine, e, hl, if_true]
theorem len_rmine (args : List AV) (H : AH) (v : AV) (H1 : AH) (h : s_rmine args H = some (v, H1)) : H.length ≤ H1.length := by
  unfold s_rmine at h
  split at h
  · split at h
    · split at h
      · simp only [Option.some.injEq, Prod.mk.injEq] at h
        rw [← h.2]
        unfold h_rmine
        split <;> simp
      · simp at h
    · simp at h
  · simp at h
set_option maxHeartbeats 8000000 in
set_option maxRecDepth 100000 in
set_option maxHeartbeats 2000000 in
theorem ok_rmine : FpOk Try.prog 11 s_rmine := by
  refine fp_ok (s := s_rmine) (tab := []) hmix TabOk.nil Try.func11 rfl Try.results11 Try.ntmps11 (by kernel_rfl) (by kernel_rfl) len_rmine ?_
  intro args H v H1 h hargs hH
  unfold s_rmine at h
  split at h
  · rename_i x hh
    split at h
    · rename_i L hL
      split at h
      · rename_i hn
        simp only [Option.some.injEq, Prod.mk.injEq] at h
        obtain ⟨rfl, rfl⟩ := h
        refine ⟨by simp only [List.length_cons, List.length_nil]; decide, ?_⟩
        have bx : x.bel H.length = true := by simp only [List.all_cons, AV.bel, Bool.and_eq_true] at hargs; exact hargs.1
        have hx := slD_inv dcE_d hL
        have xl : ∀ e, lenB (.sl e) (.c x) = some (.c (.i L.length)) := by
          intro e
          rcases hx with ⟨rfl, rfl⟩ | ⟨id2, v2, rfl, _, _⟩ <;> rfl
        (try simp (config := { maxSteps := 10000000 }) only [go_sem, List.reduceReplicate, BitVec.reduceOfInt, BitVec.reduceToNat, BitVec.reduceToInt, BitVec.reduceEq, BitVec.reduceLT, BitVec.reduceLE, BitVec.reduceAdd, BitVec.reduceSub, BitVec.reduceMul, BitVec.reduceUDiv, BitVec.reduceUMod, BitVec.reduceAnd, BitVec.reduceOr, BitVec.reduceXOr, BitVec.reduceNot, BitVec.reduceNeg, BitVec.reduceHShiftLeft, BitVec.reduceHShiftRight, Nat.reduceAdd, Nat.reduceMul, Nat.reduceSub, Nat.reduceBEq, Nat.reduceEqDiff, Nat.reduceLeDiff, Nat.reduceLT, Int.reduceLE, Int.reduceLT, Int.reduceAdd, Int.reduceSub, Int.reduceMul, Int.reduceNeg, Int.reduceToNat, Int.reduceEq, ↓reduceIte, reduceCtorEq, xl]; repeat (simp (disch := omega) only [w64_d, ipos, ineg, dpos, dneg]; try simp (config := { maxSteps := 10000000 }) only [go_sem, List.reduceReplicate, BitVec.reduceOfInt, BitVec.reduceToNat, BitVec.reduceToInt, BitVec.reduceEq, BitVec.reduceLT, BitVec.reduceLE, BitVec.reduceAdd, BitVec.reduceSub, BitVec.reduceMul, BitVec.reduceUDiv, BitVec.reduceUMod, BitVec.reduceAnd, BitVec.reduceOr, BitVec.reduceXOr, BitVec.reduceNot, BitVec.reduceNeg, BitVec.reduceHShiftLeft, BitVec.reduceHShiftRight, Nat.reduceAdd, Nat.reduceMul, Nat.reduceSub, Nat.reduceBEq, Nat.reduceEqDiff, Nat.reduceLeDiff, Nat.reduceLT, Int.reduceLE, Int.reduceLT, Int.reduceAdd, Int.reduceSub, Int.reduceMul, Int.reduceNeg, Int.reduceToNat, Int.reduceEq, ↓reduceIte, reduceCtorEq, xl]))
        refine arun_for L.length (fun k => ([(0, .c x), (1, .c (.i hh)), (5, .c (v_rmine H (mineF hh (L.take k)))), (6, .c (.i (k : Nat)))], h_rmine H (mineF hh (L.take k)))) ?_ fun k hk => ?_
        · have e0 : mineF hh (L.take 0) = [] := rfl
          simp only [e0, v_rmine, h_rmine, if_true]
          exact Wk.wk (by simp [lo]) (by simp [Am.get]) (by simp only [List.all_cons, List.all_nil, Bool.and_true, Bool.and_eq_true, AV.bel]; exact ⟨bx, rfl, rfl, rfl⟩) (subH_refl _) hH
        · have nx : ∀ (fr : Fr) (H2 : AH) (A : List Ev), A = mineF hh (L.take (k + 1)) → subH (h_rmine H A) H2 → (∀ p ∈ ([(0, .c x), (1, .c (.i hh)), (5, .c (v_rmine H A)), (6, .c (.i (k + 1 : Nat)))] : Fr), Am.get fr p.1 = p.2) →
              Wk H.length fr H2 ([(0, .c x), (1, .c (.i hh)), (5, .c (v_rmine H (mineF hh (L.take (k + 1))))), (6, .c (.i (k + 1 : Nat)))], h_rmine H (mineF hh (L.take (k + 1)))) := by
            intro fr H2 A hA hs hf
            subst hA
            refine Wk.wk (by unfold h_rmine; split <;> simp) hf ?_ hs (hb_rmine hH _)
            have l1 : H.length ≤ (h_rmine H (mineF hh (L.take (k + 1)))).length := by unfold h_rmine; split <;> simp
            have hx7 := Sc.bel_mono bx l1
            have bv : (v_rmine H (mineF hh (L.take (k + 1)))).bel (h_rmine H (mineF hh (L.take (k + 1)))).length = true := by
              unfold v_rmine h_rmine
              split
              · rfl
              · simp [Sc.bel]
            simp only [List.all_cons, List.all_nil, Bool.and_true, Bool.and_eq_true, AV.bel]
            exact ⟨hx7, rfl, bv, rfl⟩
          have k0 : (0 : Int) ≤ (k : Int) := by omega
          have hal := mine_l hh L k
          by_cases hlt : k < L.length
          rotate_left
          · obtain rfl : k = L.length := by omega
            have kI : ¬ ((L.length : Int) < (L.length : Int)) := by omega
            rw [List.take_length]
            (try simp (config := { maxSteps := 10000000 }) only [go_sem, List.reduceReplicate, BitVec.reduceOfInt, BitVec.reduceToNat, BitVec.reduceToInt, BitVec.reduceEq, BitVec.reduceLT, BitVec.reduceLE, BitVec.reduceAdd, BitVec.reduceSub, BitVec.reduceMul, BitVec.reduceUDiv, BitVec.reduceUMod, BitVec.reduceAnd, BitVec.reduceOr, BitVec.reduceXOr, BitVec.reduceNot, BitVec.reduceNeg, BitVec.reduceHShiftLeft, BitVec.reduceHShiftRight, Nat.reduceAdd, Nat.reduceMul, Nat.reduceSub, Nat.reduceBEq, Nat.reduceEqDiff, Nat.reduceLeDiff, Nat.reduceLT, Int.reduceLE, Int.reduceLT, Int.reduceAdd, Int.reduceSub, Int.reduceMul, Int.reduceNeg, Int.reduceToNat, Int.reduceEq, ↓reduceIte, reduceCtorEq, xl]; repeat (simp (disch := omega) only [w64_d, ipos, ineg, dpos, dneg]; try simp (config := { maxSteps := 10000000 }) only [go_sem, List.reduceReplicate, BitVec.reduceOfInt, BitVec.reduceToNat, BitVec.reduceToInt, BitVec.reduceEq, BitVec.reduceLT, BitVec.reduceLE, BitVec.reduceAdd, BitVec.reduceSub, BitVec.reduceMul, BitVec.reduceUDiv, BitVec.reduceUMod, BitVec.reduceAnd, BitVec.reduceOr, BitVec.reduceXOr, BitVec.reduceNot, BitVec.reduceNeg, BitVec.reduceHShiftLeft, BitVec.reduceHShiftRight, Nat.reduceAdd, Nat.reduceMul, Nat.reduceSub, Nat.reduceBEq, Nat.reduceEqDiff, Nat.reduceLeDiff, Nat.reduceLT, Int.reduceLE, Int.reduceLT, Int.reduceAdd, Int.reduceSub, Int.reduceMul, Int.reduceNeg, Int.reduceToNat, Int.reduceEq, ↓reduceIte, reduceCtorEq, xl]))
            exact fin_e
          have kI : ((k : Int) < (L.length : Int)) := by omega
          obtain ⟨e, he⟩ : ∃ e, L[k]? = some e := ⟨_, List.getElem?_eq_getElem hlt⟩
          have hst := mine_s (h := hh) he
          have e1 : w64 ((k : Int) + 1) = ((k + 1 : Nat) : Int) := by rw [w64_of (by omega)]; omega
          rcases hx with ⟨rfl, rfl⟩ | ⟨id2, v2, rfl, hv2, hcs2⟩
          · simp at hlt
          have lid2 : id2 < H.length := by simpa [Sc.bel] using bx
          have gx2 : ∀ X, hg (H ++ X) id2 = hg H id2 := fun X => hg_lt' lid2
          have hv2 := hv2.symm
          have b1 : (k * 65 + 65 ≤ (hg H id2).cells.length) = True := eq_true (by rw [hcs2]; exact fm_le encE_l hlt)
          have b2 : (k * 65 + 1 ≤ (hg H id2).cells.length) = True := eq_true (Nat.le_trans (by omega) (of_eq_true b1))
          have g3 : ((hg H id2).cells.drop (k * 65)).take 65 = encE e := by rw [hcs2]; exact fm_get encE_l he
          have f0 := (fit_i e.2 0 rfl).1
          have g0 : (hg H id2).cells.getD (k * 65) .any = .i (gi e.1 0) := by
            have := fm_cell encE_l he (i := 0) (by decide)
            rw [Nat.add_zero] at this
            rw [hcs2, this]; exact f0
          have le : (encE e).length = 65 := encE_l e
          have oe : (encE e).all Sc.one = true := (fit_all e.2).1
          have f0' : (encE e).getD 0 .any = .i (gi e.1 0) := f0
          have te : (encE e).take 65 = encE e := by rw [← le, List.take_length]
          generalize hA : mineF hh (L.take k) = A at hst hal ⊢
          have fl : True → (A.flatMap encE).length = A.length * 65 := fun _ => fm_len encE_l A
          have c1 : ((A.length + 1) * 520 ≤ 1099511627776) = True := eq_true <| Nat.le_trans (Nat.mul_le_mul_right 520 (show A.length + 1 ≤ 1000001 by omega)) (by decide)
          have fa : (A ++ [e]).flatMap encE = A.flatMap encE ++ encE e := by rw [fm_app]; simp
          by_cases hm : gi e.1 0 = hh
          · rw [if_pos hm] at hst
            by_cases hA0 : A = []
            · subst hA0
              simp only [v_rmine, h_rmine, if_true]
              (try simp (config := { maxSteps := 10000000 }) only [go_sem, List.reduceReplicate, BitVec.reduceOfInt, BitVec.reduceToNat, BitVec.reduceToInt, BitVec.reduceEq, BitVec.reduceLT, BitVec.reduceLE, BitVec.reduceAdd, BitVec.reduceSub, BitVec.reduceMul, BitVec.reduceUDiv, BitVec.reduceUMod, BitVec.reduceAnd, BitVec.reduceOr, BitVec.reduceXOr, BitVec.reduceNot, BitVec.reduceNeg, BitVec.reduceHShiftLeft, BitVec.reduceHShiftRight, Nat.reduceAdd, Nat.reduceMul, Nat.reduceSub, Nat.reduceBEq, Nat.reduceEqDiff, Nat.reduceLeDiff, Nat.reduceLT, Int.reduceLE, Int.reduceLT, Int.reduceAdd, Int.reduceSub, Int.reduceMul, Int.reduceNeg, Int.reduceToNat, Int.reduceEq, ↓reduceIte, reduceCtorEq, xl, kI, k0, e1, gx2, hv2, b1, b2, g3, g0, le, oe, te, f0', hm]; repeat (simp (disch := omega) only [w64_d, ipos, ineg, dpos, dneg]; try simp (config := { maxSteps := 10000000 }) only [go_sem, List.reduceReplicate, BitVec.reduceOfInt, BitVec.reduceToNat, BitVec.reduceToInt, BitVec.reduceEq, BitVec.reduceLT, BitVec.reduceLE, BitVec.reduceAdd, BitVec.reduceSub, BitVec.reduceMul, BitVec.reduceUDiv, BitVec.reduceUMod, BitVec.reduceAnd, BitVec.reduceOr, BitVec.reduceXOr, BitVec.reduceNot, BitVec.reduceNeg, BitVec.reduceHShiftLeft, BitVec.reduceHShiftRight, Nat.reduceAdd, Nat.reduceMul, Nat.reduceSub, Nat.reduceBEq, Nat.reduceEqDiff, Nat.reduceLeDiff, Nat.reduceLT, Int.reduceLE, Int.reduceLT, Int.reduceAdd, Int.reduceSub, Int.reduceMul, Int.reduceNeg, Int.reduceToNat, Int.reduceEq, ↓reduceIte, reduceCtorEq, xl, kI, k0, e1, gx2, hv2, b1, b2, g3, g0, le, oe, te, f0', hm]))
              refine ⟨k + 1, by omega, by omega, nx _ _ [e] (by rw [hst]; rfl) ?_ ?_⟩
              · simp only [h_rmine, List.flatMap_cons, List.flatMap_nil, List.append_nil]
                exact subH_pre H ⟨.inl rfl, .inr rfl, trivial⟩
              · simp [Am.get, v_rmine]
            · simp only [v_rmine, h_rmine, hA0, if_false]
              (try simp (config := { maxSteps := 10000000 }) only [go_sem, List.reduceReplicate, BitVec.reduceOfInt, BitVec.reduceToNat, BitVec.reduceToInt, BitVec.reduceEq, BitVec.reduceLT, BitVec.reduceLE, BitVec.reduceAdd, BitVec.reduceSub, BitVec.reduceMul, BitVec.reduceUDiv, BitVec.reduceUMod, BitVec.reduceAnd, BitVec.reduceOr, BitVec.reduceXOr, BitVec.reduceNot, BitVec.reduceNeg, BitVec.reduceHShiftLeft, BitVec.reduceHShiftRight, Nat.reduceAdd, Nat.reduceMul, Nat.reduceSub, Nat.reduceBEq, Nat.reduceEqDiff, Nat.reduceLeDiff, Nat.reduceLT, Int.reduceLE, Int.reduceLT, Int.reduceAdd, Int.reduceSub, Int.reduceMul, Int.reduceNeg, Int.reduceToNat, Int.reduceEq, ↓reduceIte, reduceCtorEq, xl, kI, k0, e1, gx2, hv2, b1, b2, g3, g0, le, oe, te, f0', hm, fl, c1]; repeat (simp (disch := omega) only [w64_d, ipos, ineg, dpos, dneg]; try simp (config := { maxSteps := 10000000 }) only [go_sem, List.reduceReplicate, BitVec.reduceOfInt, BitVec.reduceToNat, BitVec.reduceToInt, BitVec.reduceEq, BitVec.reduceLT, BitVec.reduceLE, BitVec.reduceAdd, BitVec.reduceSub, BitVec.reduceMul, BitVec.reduceUDiv, BitVec.reduceUMod, BitVec.reduceAnd, BitVec.reduceOr, BitVec.reduceXOr, BitVec.reduceNot, BitVec.reduceNeg, BitVec.reduceHShiftLeft, BitVec.reduceHShiftRight, Nat.reduceAdd, Nat.reduceMul, Nat.reduceSub, Nat.reduceBEq, Nat.reduceEqDiff, Nat.reduceLeDiff, Nat.reduceLT, Int.reduceLE, Int.reduceLT, Int.reduceAdd, Int.reduceSub, Int.reduceMul, Int.reduceNeg, Int.reduceToNat, Int.reduceEq, ↓reduceIte, reduceCtorEq, xl, kI, k0, e1, gx2, hv2, b1, b2, g3, g0, le, oe, te, f0', hm, fl, c1]))
              have hne : A ++ [e] ≠ [] := by simp
              refine ⟨k + 1, by omega, by omega, nx _ _ (A ++ [e]) hst.symm ?_ ?_⟩
              · simp only [h_rmine, hne, if_false, fa]
                exact subH_pre H ⟨.inl rfl, .inr rfl, trivial⟩
              · simp [Am.get, v_rmine, Nat.add_mul]
          · rw [if_neg hm, List.append_nil] at hst
            by_cases hA0 : A = []
            · subst hA0
              simp only [v_rmine, h_rmine, if_true]
              (try simp (config := { maxSteps := 10000000 }) only [go_sem, List.reduceReplicate, BitVec.reduceOfInt, BitVec.reduceToNat, BitVec.reduceToInt, BitVec.reduceEq, BitVec.reduceLT, BitVec.reduceLE, BitVec.reduceAdd, BitVec.reduceSub, BitVec.reduceMul, BitVec.reduceUDiv, BitVec.reduceUMod, BitVec.reduceAnd, BitVec.reduceOr, BitVec.reduceXOr, BitVec.reduceNot, BitVec.reduceNeg, BitVec.reduceHShiftLeft, BitVec.reduceHShiftRight, Nat.reduceAdd, Nat.reduceMul, Nat.reduceSub, Nat.reduceBEq, Nat.reduceEqDiff, Nat.reduceLeDiff, Nat.reduceLT, Int.reduceLE, Int.reduceLT, Int.reduceAdd, Int.reduceSub, Int.reduceMul, Int.reduceNeg, Int.reduceToNat, Int.reduceEq, ↓reduceIte, reduceCtorEq, xl, kI, k0, e1, gx2, hv2, b1, b2, g3, g0, le, oe, te, f0', hm]; repeat (simp (disch := omega) only [w64_d, ipos, ineg, dpos, dneg]; try simp (config := { maxSteps := 10000000 }) only [go_sem, List.reduceReplicate, BitVec.reduceOfInt, BitVec.reduceToNat, BitVec.reduceToInt, BitVec.reduceEq, BitVec.reduceLT, BitVec.reduceLE, BitVec.reduceAdd, BitVec.reduceSub, BitVec.reduceMul, BitVec.reduceUDiv, BitVec.reduceUMod, BitVec.reduceAnd, BitVec.reduceOr, BitVec.reduceXOr, BitVec.reduceNot, BitVec.reduceNeg, BitVec.reduceHShiftLeft, BitVec.reduceHShiftRight, Nat.reduceAdd, Nat.reduceMul, Nat.reduceSub, Nat.reduceBEq, Nat.reduceEqDiff, Nat.reduceLeDiff, Nat.reduceLT, Int.reduceLE, Int.reduceLT, Int.reduceAdd, Int.reduceSub, Int.reduceMul, Int.reduceNeg, Int.reduceToNat, Int.reduceEq, ↓reduceIte, reduceCtorEq, xl, kI, k0, e1, gx2, hv2, b1, b2, g3, g0, le, oe, te, f0', hm]))
              exact ⟨k + 1, by omega, by omega, nx _ _ [] hst.symm (by simp only [h_rmine, if_true]; first | exact subH_refl _ | exact subH_app _ _) (by simp [Am.get, v_rmine])⟩
            · simp only [v_rmine, h_rmine, hA0, if_false]
              (try simp (config := { maxSteps := 10000000 }) only [go_sem, List.reduceReplicate, BitVec.reduceOfInt, BitVec.reduceToNat, BitVec.reduceToInt, BitVec.reduceEq, BitVec.reduceLT, BitVec.reduceLE, BitVec.reduceAdd, BitVec.reduceSub, BitVec.reduceMul, BitVec.reduceUDiv, BitVec.reduceUMod, BitVec.reduceAnd, BitVec.reduceOr, BitVec.reduceXOr, BitVec.reduceNot, BitVec.reduceNeg, BitVec.reduceHShiftLeft, BitVec.reduceHShiftRight, Nat.reduceAdd, Nat.reduceMul, Nat.reduceSub, Nat.reduceBEq, Nat.reduceEqDiff, Nat.reduceLeDiff, Nat.reduceLT, Int.reduceLE, Int.reduceLT, Int.reduceAdd, Int.reduceSub, Int.reduceMul, Int.reduceNeg, Int.reduceToNat, Int.reduceEq, ↓reduceIte, reduceCtorEq, xl, kI, k0, e1, gx2, hv2, b1, b2, g3, g0, le, oe, te, f0', hm]; repeat (simp (disch := omega) only [w64_d, ipos, ineg, dpos, dneg]; try simp (config := { maxSteps := 10000000 }) only [go_sem, List.reduceReplicate, BitVec.reduceOfInt, BitVec.reduceToNat, BitVec.reduceToInt, BitVec.reduceEq, BitVec.reduceLT, BitVec.reduceLE, BitVec.reduceAdd, BitVec.reduceSub, BitVec.reduceMul, BitVec.reduceUDiv, BitVec.reduceUMod, BitVec.reduceAnd, BitVec.reduceOr, BitVec.reduceXOr, BitVec.reduceNot, BitVec.reduceNeg, BitVec.reduceHShiftLeft, BitVec.reduceHShiftRight, Nat.reduceAdd, Nat.reduceMul, Nat.reduceSub, Nat.reduceBEq, Nat.reduceEqDiff, Nat.reduceLeDiff, Nat.reduceLT, Int.reduceLE, Int.reduceLT, Int.reduceAdd, Int.reduceSub, Int.reduceMul, Int.reduceNeg, Int.reduceToNat, Int.reduceEq, ↓reduceIte, reduceCtorEq, xl, kI, k0, e1, gx2, hv2, b1, b2, g3, g0, le, oe, te, f0', hm]))
              exact ⟨k + 1, by omega, by omega, nx _ _ A hst.symm (by simp only [h_rmine, hA0, if_false]; exact subH_pre H ⟨.inl rfl, .inr rfl, trivial⟩) (by simp [Am.get, v_rmine, hA0])⟩
      · simp at h
    · simp at h
  · simp at h

end
end Go.Proofs.Ytamjmjllgmachaa
