/- Layer 29: the reference's From: contract. -/
import Derived.Test.YthjhkckndnhjpaaMa7
namespace Go.Proofs.Ythjhkckndnhjpaa
open Go.Am
set_option linter.unusedSimpArgs false
set_option linter.unusedVariables false
noncomputable section

def v_rfrom (H : AH) (A : List Int) : Sc := if A = [] then .nils else .sl (H.length + 2) 0 A.length A.length
def h_rfrom (H : AH) (m : List Sc) (A : List Int) : AH := if A = [] then H ++ [.own m] else H ++ [.own m, .dead, .vec 1 (A.flatMap encI)]
theorem hb_rfrom {H : AH} (hH : belH H = true) {m : List Sc} (hm : ∀ k, m.all (Sc.bel k) = true) (A : List Int) : belH (h_rfrom H m A) = true := by
  unfold h_rfrom
  split
  · unfold belH
    rw [List.all_append, Bool.and_eq_true]
    refine ⟨List.all_eq_true.2 fun o ho => List.all_eq_true.2 fun s hs => ?_, ?_⟩
    · exact Sc.bel_mono (List.all_eq_true.1 (List.all_eq_true.1 hH o ho) s hs) (by simp)
    · simp only [List.all_cons, List.all_nil, Bool.and_true, AObj.cells, hm]
  · unfold belH
    rw [List.all_append, Bool.and_eq_true]
    refine ⟨List.all_eq_true.2 fun o ho => List.all_eq_true.2 fun s hs => ?_, ?_⟩
    · exact Sc.bel_mono (List.all_eq_true.1 (List.all_eq_true.1 hH o ho) s hs) (by simp)
    · simp only [List.all_cons, List.all_nil, Bool.and_true, oc_vec, intI_bel, AObj.cells, hm]
def rfP (n : Int) (R : List Row) (b : Int) (i : Nat) : Bool := inH n b && (slotR R i b.toNat).s
def s_rfrom (args : List AV) (H : AH) : Option (AV × AH) :=
  match args with
  | [.g m, .c (.i b)] =>
    match mlD (.own m) with
    | some (n, R) => if n ≤ 8 then some (.c (v_rfrom H (fromL (rfP n R b) n.toNat)), h_rfrom H m (fromL (rfP n R b) n.toNat)) else none
    | none => none
  | _ => none
theorem s_rfrom_eq {n b : Int} {R : List Row} {H : AH} (hR : R.length = 8) (hn : n ≤ 8) : s_rfrom [.g (mlC n R), .c (.i b)] H = some (.c (v_rfrom H (fromL (rfP n R b) n.toNat)), h_rfrom H (mlC n R) (fromL (rfP n R b) n.toNat)) := by
  simp only [s_rfrom, mlD_of hR, hn, if_true]
theorem len_rfrom (args : List AV) (H : AH) (v : AV) (H1 : AH) (h : s_rfrom args H = some (v, H1)) : H.length ≤ H1.length := by
  unfold s_rfrom at h
  split at h
  · split at h
    · split at h
      · simp only [Option.some.injEq, Prod.mk.injEq] at h
        rw [← h.2]
        unfold h_rfrom
        split <;> simp
      · simp at h
    · simp at h
  · simp at h
set_option maxHeartbeats 8000000 in
set_option maxRecDepth 100000 in
set_option maxHeartbeats 2000000 in
theorem ok_rfrom : FpOk Try.prog 23 s_rfrom := by
  refine fp_ok (s := s_rfrom) (tab := []) hmix TabOk.nil Try.func23 rfl Try.results23 Try.ntmps23 (by kernel_rfl) (by kernel_rfl) len_rfrom ?_
  intro args H v H1 h hargs hH
  unfold s_rfrom at h
  split at h
  · rename_i m b
    split at h
    · rename_i n R hm
      split at h
      · rename_i hn
        simp only [Option.some.injEq, Prod.mk.injEq] at h
        obtain ⟨rfl, rfl⟩ := h
        refine ⟨by simp only [List.length_cons, List.length_nil]; decide, ?_⟩
        obtain ⟨e, hR⟩ := mlD_inv hm
        simp only [AObj.own.injEq] at e
        subst e
        have l0 := mlC_len n hR
        have gn : (mlC n R).getD 0 .any = .i n := rfl
        have mo := mlC_one n R
        have mb := fun k => mlC_bel n R k
        (try simp (config := { maxSteps := 10000000 }) only [go_sem, List.reduceReplicate, BitVec.reduceOfInt, BitVec.reduceToNat, BitVec.reduceToInt, BitVec.reduceEq, BitVec.reduceLT, BitVec.reduceLE, BitVec.reduceAdd, BitVec.reduceSub, BitVec.reduceMul, BitVec.reduceUDiv, BitVec.reduceUMod, BitVec.reduceAnd, BitVec.reduceOr, BitVec.reduceXOr, BitVec.reduceNot, BitVec.reduceNeg, BitVec.reduceHShiftLeft, BitVec.reduceHShiftRight, Nat.reduceAdd, Nat.reduceMul, Nat.reduceSub, Nat.reduceBEq, Nat.reduceEqDiff, Nat.reduceLeDiff, Nat.reduceLT, Int.reduceLE, Int.reduceLT, Int.reduceAdd, Int.reduceSub, Int.reduceMul, Int.reduceNeg, Int.reduceToNat, Int.reduceEq, ↓reduceIte, reduceCtorEq, l0, mo]; repeat (simp (disch := omega) only [w64_d, ipos, ineg, dpos, dneg]; try simp (config := { maxSteps := 10000000 }) only [go_sem, List.reduceReplicate, BitVec.reduceOfInt, BitVec.reduceToNat, BitVec.reduceToInt, BitVec.reduceEq, BitVec.reduceLT, BitVec.reduceLE, BitVec.reduceAdd, BitVec.reduceSub, BitVec.reduceMul, BitVec.reduceUDiv, BitVec.reduceUMod, BitVec.reduceAnd, BitVec.reduceOr, BitVec.reduceXOr, BitVec.reduceNot, BitVec.reduceNeg, BitVec.reduceHShiftLeft, BitVec.reduceHShiftRight, Nat.reduceAdd, Nat.reduceMul, Nat.reduceSub, Nat.reduceBEq, Nat.reduceEqDiff, Nat.reduceLeDiff, Nat.reduceLT, Int.reduceLE, Int.reduceLT, Int.reduceAdd, Int.reduceSub, Int.reduceMul, Int.reduceNeg, Int.reduceToNat, Int.reduceEq, ↓reduceIte, reduceCtorEq, l0, mo]))
        refine arun_for n.toNat (fun k => ([(1, .c (.i b)), (2, .c (.p H.length 0 0)), (5, .c (v_rfrom H (fromL (rfP n R b) k))), (6, .c (.i (k : Nat)))], h_rfrom H (mlC n R) (fromL (rfP n R b) k))) ?_ fun k hk => ?_
        · have e0 : fromL (rfP n R b) 0 = [] := rfl
          simp only [e0, v_rfrom, h_rfrom, if_true]
          exact Wk.wk (by simp [lo]) (by simp [Am.get]) (by simp [AV.bel, Sc.bel]) (subH_refl _) (by have := hb_rfrom hH mb []; rw [h_rfrom, if_pos rfl] at this; exact this)
        · have nx : ∀ (fr : Fr) (H2 : AH) (A : List Int), A = fromL (rfP n R b) (k + 1) → subH (h_rfrom H (mlC n R) A) H2 → (∀ p ∈ ([(1, .c (.i b)), (2, .c (.p H.length 0 0)), (5, .c (v_rfrom H A)), (6, .c (.i (k + 1 : Nat)))] : Fr), Am.get fr p.1 = p.2) →
              Wk H.length fr H2 ([(1, .c (.i b)), (2, .c (.p H.length 0 0)), (5, .c (v_rfrom H (fromL (rfP n R b) (k + 1)))), (6, .c (.i (k + 1 : Nat)))], h_rfrom H (mlC n R) (fromL (rfP n R b) (k + 1))) := by
            intro fr H2 A hA hs hf
            rw [← hA]
            refine Wk.wk (by unfold h_rfrom; split <;> simp) hf ?_ hs (hb_rfrom hH mb _)
            have l1 : H.length + 1 ≤ (h_rfrom H (mlC n R) A).length := by unfold h_rfrom; split <;> simp
            have bv : (v_rfrom H A).bel (h_rfrom H (mlC n R) A).length = true := by
              unfold v_rfrom h_rfrom
              split
              · rfl
              · simp [Sc.bel]
            have hi : (Sc.p H.length 0 0).bel (h_rfrom H (mlC n R) A).length = true := by simp [Sc.bel]; omega
            simp only [List.all_cons, List.all_nil, Bool.and_true, Bool.and_eq_true, AV.bel]
            exact ⟨rfl, hi, bv, rfl⟩
          have k0 : (0 : Int) ≤ (k : Int) := by omega
          have hal := from_len (rfP n R b) k
          by_cases hlt : k < n.toNat
          rotate_left
          · obtain rfl : k = n.toNat := by omega
            have kI : ¬ ((n.toNat : Int) < n) := by omega
            generalize hA : fromL (rfP n R b) n.toNat = A at hal ⊢
            by_cases hA0 : A = []
            · subst hA0
              simp only [v_rfrom, h_rfrom, if_true]
              (try simp (config := { maxSteps := 10000000 }) only [go_sem, List.reduceReplicate, BitVec.reduceOfInt, BitVec.reduceToNat, BitVec.reduceToInt, BitVec.reduceEq, BitVec.reduceLT, BitVec.reduceLE, BitVec.reduceAdd, BitVec.reduceSub, BitVec.reduceMul, BitVec.reduceUDiv, BitVec.reduceUMod, BitVec.reduceAnd, BitVec.reduceOr, BitVec.reduceXOr, BitVec.reduceNot, BitVec.reduceNeg, BitVec.reduceHShiftLeft, BitVec.reduceHShiftRight, Nat.reduceAdd, Nat.reduceMul, Nat.reduceSub, Nat.reduceBEq, Nat.reduceEqDiff, Nat.reduceLeDiff, Nat.reduceLT, Int.reduceLE, Int.reduceLT, Int.reduceAdd, Int.reduceSub, Int.reduceMul, Int.reduceNeg, Int.reduceToNat, Int.reduceEq, ↓reduceIte, reduceCtorEq, l0, gn, kI]; repeat (simp (disch := omega) only [w64_d, ipos, ineg, dpos, dneg]; try simp (config := { maxSteps := 10000000 }) only [go_sem, List.reduceReplicate, BitVec.reduceOfInt, BitVec.reduceToNat, BitVec.reduceToInt, BitVec.reduceEq, BitVec.reduceLT, BitVec.reduceLE, BitVec.reduceAdd, BitVec.reduceSub, BitVec.reduceMul, BitVec.reduceUDiv, BitVec.reduceUMod, BitVec.reduceAnd, BitVec.reduceOr, BitVec.reduceXOr, BitVec.reduceNot, BitVec.reduceNeg, BitVec.reduceHShiftLeft, BitVec.reduceHShiftRight, Nat.reduceAdd, Nat.reduceMul, Nat.reduceSub, Nat.reduceBEq, Nat.reduceEqDiff, Nat.reduceLeDiff, Nat.reduceLT, Int.reduceLE, Int.reduceLT, Int.reduceAdd, Int.reduceSub, Int.reduceMul, Int.reduceNeg, Int.reduceToNat, Int.reduceEq, ↓reduceIte, reduceCtorEq, l0, gn, kI]))
              exact fin_e
            · simp only [v_rfrom, h_rfrom, hA0, if_false]
              (try simp (config := { maxSteps := 10000000 }) only [go_sem, List.reduceReplicate, BitVec.reduceOfInt, BitVec.reduceToNat, BitVec.reduceToInt, BitVec.reduceEq, BitVec.reduceLT, BitVec.reduceLE, BitVec.reduceAdd, BitVec.reduceSub, BitVec.reduceMul, BitVec.reduceUDiv, BitVec.reduceUMod, BitVec.reduceAnd, BitVec.reduceOr, BitVec.reduceXOr, BitVec.reduceNot, BitVec.reduceNeg, BitVec.reduceHShiftLeft, BitVec.reduceHShiftRight, Nat.reduceAdd, Nat.reduceMul, Nat.reduceSub, Nat.reduceBEq, Nat.reduceEqDiff, Nat.reduceLeDiff, Nat.reduceLT, Int.reduceLE, Int.reduceLT, Int.reduceAdd, Int.reduceSub, Int.reduceMul, Int.reduceNeg, Int.reduceToNat, Int.reduceEq, ↓reduceIte, reduceCtorEq, l0, gn, kI]; repeat (simp (disch := omega) only [w64_d, ipos, ineg, dpos, dneg]; try simp (config := { maxSteps := 10000000 }) only [go_sem, List.reduceReplicate, BitVec.reduceOfInt, BitVec.reduceToNat, BitVec.reduceToInt, BitVec.reduceEq, BitVec.reduceLT, BitVec.reduceLE, BitVec.reduceAdd, BitVec.reduceSub, BitVec.reduceMul, BitVec.reduceUDiv, BitVec.reduceUMod, BitVec.reduceAnd, BitVec.reduceOr, BitVec.reduceXOr, BitVec.reduceNot, BitVec.reduceNeg, BitVec.reduceHShiftLeft, BitVec.reduceHShiftRight, Nat.reduceAdd, Nat.reduceMul, Nat.reduceSub, Nat.reduceBEq, Nat.reduceEqDiff, Nat.reduceLeDiff, Nat.reduceLT, Int.reduceLE, Int.reduceLT, Int.reduceAdd, Int.reduceSub, Int.reduceMul, Int.reduceNeg, Int.reduceToNat, Int.reduceEq, ↓reduceIte, reduceCtorEq, l0, gn, kI]))
              exact fin_e
          have kI : ((k : Int) < n) := by omega
          have k8 : (k : Int) < 8 := by omega
          have k8' : k < 8 := by omega
          have hst := from_s (rfP n R b) k
          have e1 : w64 ((k : Int) + 1) = ((k + 1 : Nat) : Int) := by rw [w64_of (by omega)]; omega
          generalize hA : fromL (rfP n R b) k = A at hst hal ⊢
          have fl : True → (A.flatMap encI).length = A.length := fun _ => by rw [fm_len encI_l, Nat.mul_one]
          have c1 : ((A.length + 1) * 8 ≤ 1099511627776) = True := eq_true <| Nat.le_trans (Nat.mul_le_mul_right 8 (show A.length + 1 ≤ 1000001 by omega)) (by decide)
          have fa : (A ++ [(k : Int)]).flatMap encI = A.flatMap encI ++ [.i k] := by rw [fm_app]; simp [encI]
          have no : rfP n R b k = false → fromL (rfP n R b) (k + 1) = A := fun hm => by rw [hst, if_neg (by simp [hm]), List.append_nil]
          have yes : rfP n R b k = true → fromL (rfP n R b) (k + 1) = A ++ [(k : Int)] := fun hm => by rw [hst, if_pos hm]
          by_cases b0 : 0 ≤ b
          rotate_left
          · have nn := no (by unfold rfP; rw [inH_n (by omega)]; rfl)
            by_cases hA0 : A = []
            · subst hA0
              simp only [v_rfrom, h_rfrom, if_true]
              (try simp (config := { maxSteps := 10000000 }) only [go_sem, List.reduceReplicate, BitVec.reduceOfInt, BitVec.reduceToNat, BitVec.reduceToInt, BitVec.reduceEq, BitVec.reduceLT, BitVec.reduceLE, BitVec.reduceAdd, BitVec.reduceSub, BitVec.reduceMul, BitVec.reduceUDiv, BitVec.reduceUMod, BitVec.reduceAnd, BitVec.reduceOr, BitVec.reduceXOr, BitVec.reduceNot, BitVec.reduceNeg, BitVec.reduceHShiftLeft, BitVec.reduceHShiftRight, Nat.reduceAdd, Nat.reduceMul, Nat.reduceSub, Nat.reduceBEq, Nat.reduceEqDiff, Nat.reduceLeDiff, Nat.reduceLT, Int.reduceLE, Int.reduceLT, Int.reduceAdd, Int.reduceSub, Int.reduceMul, Int.reduceNeg, Int.reduceToNat, Int.reduceEq, ↓reduceIte, reduceCtorEq, l0, gn, kI, k0, e1, b0]; repeat (simp (disch := omega) only [w64_d, ipos, ineg, dpos, dneg]; try simp (config := { maxSteps := 10000000 }) only [go_sem, List.reduceReplicate, BitVec.reduceOfInt, BitVec.reduceToNat, BitVec.reduceToInt, BitVec.reduceEq, BitVec.reduceLT, BitVec.reduceLE, BitVec.reduceAdd, BitVec.reduceSub, BitVec.reduceMul, BitVec.reduceUDiv, BitVec.reduceUMod, BitVec.reduceAnd, BitVec.reduceOr, BitVec.reduceXOr, BitVec.reduceNot, BitVec.reduceNeg, BitVec.reduceHShiftLeft, BitVec.reduceHShiftRight, Nat.reduceAdd, Nat.reduceMul, Nat.reduceSub, Nat.reduceBEq, Nat.reduceEqDiff, Nat.reduceLeDiff, Nat.reduceLT, Int.reduceLE, Int.reduceLT, Int.reduceAdd, Int.reduceSub, Int.reduceMul, Int.reduceNeg, Int.reduceToNat, Int.reduceEq, ↓reduceIte, reduceCtorEq, l0, gn, kI, k0, e1, b0]))
              exact ⟨k + 1, by omega, by omega, nx _ _ [] nn.symm (by simp only [h_rfrom, if_true]; first | exact subH_refl _ | exact subH_pre H ⟨.inr rfl, trivial⟩) (by simp [Am.get, v_rfrom])⟩
            · simp only [v_rfrom, h_rfrom, hA0, if_false]
              (try simp (config := { maxSteps := 10000000 }) only [go_sem, List.reduceReplicate, BitVec.reduceOfInt, BitVec.reduceToNat, BitVec.reduceToInt, BitVec.reduceEq, BitVec.reduceLT, BitVec.reduceLE, BitVec.reduceAdd, BitVec.reduceSub, BitVec.reduceMul, BitVec.reduceUDiv, BitVec.reduceUMod, BitVec.reduceAnd, BitVec.reduceOr, BitVec.reduceXOr, BitVec.reduceNot, BitVec.reduceNeg, BitVec.reduceHShiftLeft, BitVec.reduceHShiftRight, Nat.reduceAdd, Nat.reduceMul, Nat.reduceSub, Nat.reduceBEq, Nat.reduceEqDiff, Nat.reduceLeDiff, Nat.reduceLT, Int.reduceLE, Int.reduceLT, Int.reduceAdd, Int.reduceSub, Int.reduceMul, Int.reduceNeg, Int.reduceToNat, Int.reduceEq, ↓reduceIte, reduceCtorEq, l0, gn, kI, k0, e1, b0]; repeat (simp (disch := omega) only [w64_d, ipos, ineg, dpos, dneg]; try simp (config := { maxSteps := 10000000 }) only [go_sem, List.reduceReplicate, BitVec.reduceOfInt, BitVec.reduceToNat, BitVec.reduceToInt, BitVec.reduceEq, BitVec.reduceLT, BitVec.reduceLE, BitVec.reduceAdd, BitVec.reduceSub, BitVec.reduceMul, BitVec.reduceUDiv, BitVec.reduceUMod, BitVec.reduceAnd, BitVec.reduceOr, BitVec.reduceXOr, BitVec.reduceNot, BitVec.reduceNeg, BitVec.reduceHShiftLeft, BitVec.reduceHShiftRight, Nat.reduceAdd, Nat.reduceMul, Nat.reduceSub, Nat.reduceBEq, Nat.reduceEqDiff, Nat.reduceLeDiff, Nat.reduceLT, Int.reduceLE, Int.reduceLT, Int.reduceAdd, Int.reduceSub, Int.reduceMul, Int.reduceNeg, Int.reduceToNat, Int.reduceEq, ↓reduceIte, reduceCtorEq, l0, gn, kI, k0, e1, b0]))
              exact ⟨k + 1, by omega, by omega, nx _ _ A nn.symm (by simp only [h_rfrom, hA0, if_false]; exact subH_pre H ⟨.inr rfl, .inl rfl, .inr rfl, trivial⟩) (by simp [Am.get, v_rfrom, hA0])⟩
          by_cases b1 : b < n
          rotate_left
          · have nn := no (by unfold rfP; rw [inH_n (by omega)]; rfl)
            by_cases hA0 : A = []
            · subst hA0
              simp only [v_rfrom, h_rfrom, if_true]
              (try simp (config := { maxSteps := 10000000 }) only [go_sem, List.reduceReplicate, BitVec.reduceOfInt, BitVec.reduceToNat, BitVec.reduceToInt, BitVec.reduceEq, BitVec.reduceLT, BitVec.reduceLE, BitVec.reduceAdd, BitVec.reduceSub, BitVec.reduceMul, BitVec.reduceUDiv, BitVec.reduceUMod, BitVec.reduceAnd, BitVec.reduceOr, BitVec.reduceXOr, BitVec.reduceNot, BitVec.reduceNeg, BitVec.reduceHShiftLeft, BitVec.reduceHShiftRight, Nat.reduceAdd, Nat.reduceMul, Nat.reduceSub, Nat.reduceBEq, Nat.reduceEqDiff, Nat.reduceLeDiff, Nat.reduceLT, Int.reduceLE, Int.reduceLT, Int.reduceAdd, Int.reduceSub, Int.reduceMul, Int.reduceNeg, Int.reduceToNat, Int.reduceEq, ↓reduceIte, reduceCtorEq, l0, gn, kI, k0, e1, b0, b1]; repeat (simp (disch := omega) only [w64_d, ipos, ineg, dpos, dneg]; try simp (config := { maxSteps := 10000000 }) only [go_sem, List.reduceReplicate, BitVec.reduceOfInt, BitVec.reduceToNat, BitVec.reduceToInt, BitVec.reduceEq, BitVec.reduceLT, BitVec.reduceLE, BitVec.reduceAdd, BitVec.reduceSub, BitVec.reduceMul, BitVec.reduceUDiv, BitVec.reduceUMod, BitVec.reduceAnd, BitVec.reduceOr, BitVec.reduceXOr, BitVec.reduceNot, BitVec.reduceNeg, BitVec.reduceHShiftLeft, BitVec.reduceHShiftRight, Nat.reduceAdd, Nat.reduceMul, Nat.reduceSub, Nat.reduceBEq, Nat.reduceEqDiff, Nat.reduceLeDiff, Nat.reduceLT, Int.reduceLE, Int.reduceLT, Int.reduceAdd, Int.reduceSub, Int.reduceMul, Int.reduceNeg, Int.reduceToNat, Int.reduceEq, ↓reduceIte, reduceCtorEq, l0, gn, kI, k0, e1, b0, b1]))
              exact ⟨k + 1, by omega, by omega, nx _ _ [] nn.symm (by simp only [h_rfrom, if_true]; first | exact subH_refl _ | exact subH_pre H ⟨.inr rfl, trivial⟩) (by simp [Am.get, v_rfrom])⟩
            · simp only [v_rfrom, h_rfrom, hA0, if_false]
              (try simp (config := { maxSteps := 10000000 }) only [go_sem, List.reduceReplicate, BitVec.reduceOfInt, BitVec.reduceToNat, BitVec.reduceToInt, BitVec.reduceEq, BitVec.reduceLT, BitVec.reduceLE, BitVec.reduceAdd, BitVec.reduceSub, BitVec.reduceMul, BitVec.reduceUDiv, BitVec.reduceUMod, BitVec.reduceAnd, BitVec.reduceOr, BitVec.reduceXOr, BitVec.reduceNot, BitVec.reduceNeg, BitVec.reduceHShiftLeft, BitVec.reduceHShiftRight, Nat.reduceAdd, Nat.reduceMul, Nat.reduceSub, Nat.reduceBEq, Nat.reduceEqDiff, Nat.reduceLeDiff, Nat.reduceLT, Int.reduceLE, Int.reduceLT, Int.reduceAdd, Int.reduceSub, Int.reduceMul, Int.reduceNeg, Int.reduceToNat, Int.reduceEq, ↓reduceIte, reduceCtorEq, l0, gn, kI, k0, e1, b0, b1]; repeat (simp (disch := omega) only [w64_d, ipos, ineg, dpos, dneg]; try simp (config := { maxSteps := 10000000 }) only [go_sem, List.reduceReplicate, BitVec.reduceOfInt, BitVec.reduceToNat, BitVec.reduceToInt, BitVec.reduceEq, BitVec.reduceLT, BitVec.reduceLE, BitVec.reduceAdd, BitVec.reduceSub, BitVec.reduceMul, BitVec.reduceUDiv, BitVec.reduceUMod, BitVec.reduceAnd, BitVec.reduceOr, BitVec.reduceXOr, BitVec.reduceNot, BitVec.reduceNeg, BitVec.reduceHShiftLeft, BitVec.reduceHShiftRight, Nat.reduceAdd, Nat.reduceMul, Nat.reduceSub, Nat.reduceBEq, Nat.reduceEqDiff, Nat.reduceLeDiff, Nat.reduceLT, Int.reduceLE, Int.reduceLT, Int.reduceAdd, Int.reduceSub, Int.reduceMul, Int.reduceNeg, Int.reduceToNat, Int.reduceEq, ↓reduceIte, reduceCtorEq, l0, gn, kI, k0, e1, b0, b1]))
              exact ⟨k + 1, by omega, by omega, nx _ _ A nn.symm (by simp only [h_rfrom, hA0, if_false]; exact subH_pre H ⟨.inr rfl, .inl rfl, .inr rfl, trivial⟩) (by simp [Am.get, v_rfrom, hA0])⟩
          obtain ⟨g, rfl⟩ := Int.eq_ofNat_of_zero_le b0
          have g8 : g < 8 := by omega
          have g8' : (g : Int) < 8 := by omega
          have bI : inH n (g : Int) = true := inH_y (by omega)
          have gs := slot_s (n := n) hR k8' g8
          have ng7 : 1 + k * 40 + g * 5 + 1 ≤ 321 := by omega
          have rp : rfP n R g k = (slotR R k g).s := by unfold rfP; rw [bI, Int.toNat_natCast, Bool.true_and]
          rw [rp] at no yes
          cases hm : (slotR R k g).s
          · have nn := no hm
            by_cases hA0 : A = []
            · subst hA0
              simp only [v_rfrom, h_rfrom, if_true]
              (try simp (config := { maxSteps := 10000000 }) only [go_sem, List.reduceReplicate, BitVec.reduceOfInt, BitVec.reduceToNat, BitVec.reduceToInt, BitVec.reduceEq, BitVec.reduceLT, BitVec.reduceLE, BitVec.reduceAdd, BitVec.reduceSub, BitVec.reduceMul, BitVec.reduceUDiv, BitVec.reduceUMod, BitVec.reduceAnd, BitVec.reduceOr, BitVec.reduceXOr, BitVec.reduceNot, BitVec.reduceNeg, BitVec.reduceHShiftLeft, BitVec.reduceHShiftRight, Nat.reduceAdd, Nat.reduceMul, Nat.reduceSub, Nat.reduceBEq, Nat.reduceEqDiff, Nat.reduceLeDiff, Nat.reduceLT, Int.reduceLE, Int.reduceLT, Int.reduceAdd, Int.reduceSub, Int.reduceMul, Int.reduceNeg, Int.reduceToNat, Int.reduceEq, ↓reduceIte, reduceCtorEq, l0, gn, kI, k0, k8, e1, b0, b1, g8', gs, hm, ng7]; repeat (simp (disch := omega) only [w64_d, ipos, ineg, dpos, dneg]; try simp (config := { maxSteps := 10000000 }) only [go_sem, List.reduceReplicate, BitVec.reduceOfInt, BitVec.reduceToNat, BitVec.reduceToInt, BitVec.reduceEq, BitVec.reduceLT, BitVec.reduceLE, BitVec.reduceAdd, BitVec.reduceSub, BitVec.reduceMul, BitVec.reduceUDiv, BitVec.reduceUMod, BitVec.reduceAnd, BitVec.reduceOr, BitVec.reduceXOr, BitVec.reduceNot, BitVec.reduceNeg, BitVec.reduceHShiftLeft, BitVec.reduceHShiftRight, Nat.reduceAdd, Nat.reduceMul, Nat.reduceSub, Nat.reduceBEq, Nat.reduceEqDiff, Nat.reduceLeDiff, Nat.reduceLT, Int.reduceLE, Int.reduceLT, Int.reduceAdd, Int.reduceSub, Int.reduceMul, Int.reduceNeg, Int.reduceToNat, Int.reduceEq, ↓reduceIte, reduceCtorEq, l0, gn, kI, k0, k8, e1, b0, b1, g8', gs, hm, ng7]))
              exact ⟨k + 1, by omega, by omega, nx _ _ [] nn.symm (by simp only [h_rfrom, if_true]; first | exact subH_refl _ | exact subH_pre H ⟨.inr rfl, trivial⟩) (by simp [Am.get, v_rfrom])⟩
            · simp only [v_rfrom, h_rfrom, hA0, if_false]
              (try simp (config := { maxSteps := 10000000 }) only [go_sem, List.reduceReplicate, BitVec.reduceOfInt, BitVec.reduceToNat, BitVec.reduceToInt, BitVec.reduceEq, BitVec.reduceLT, BitVec.reduceLE, BitVec.reduceAdd, BitVec.reduceSub, BitVec.reduceMul, BitVec.reduceUDiv, BitVec.reduceUMod, BitVec.reduceAnd, BitVec.reduceOr, BitVec.reduceXOr, BitVec.reduceNot, BitVec.reduceNeg, BitVec.reduceHShiftLeft, BitVec.reduceHShiftRight, Nat.reduceAdd, Nat.reduceMul, Nat.reduceSub, Nat.reduceBEq, Nat.reduceEqDiff, Nat.reduceLeDiff, Nat.reduceLT, Int.reduceLE, Int.reduceLT, Int.reduceAdd, Int.reduceSub, Int.reduceMul, Int.reduceNeg, Int.reduceToNat, Int.reduceEq, ↓reduceIte, reduceCtorEq, l0, gn, kI, k0, k8, e1, b0, b1, g8', gs, hm, ng7]; repeat (simp (disch := omega) only [w64_d, ipos, ineg, dpos, dneg]; try simp (config := { maxSteps := 10000000 }) only [go_sem, List.reduceReplicate, BitVec.reduceOfInt, BitVec.reduceToNat, BitVec.reduceToInt, BitVec.reduceEq, BitVec.reduceLT, BitVec.reduceLE, BitVec.reduceAdd, BitVec.reduceSub, BitVec.reduceMul, BitVec.reduceUDiv, BitVec.reduceUMod, BitVec.reduceAnd, BitVec.reduceOr, BitVec.reduceXOr, BitVec.reduceNot, BitVec.reduceNeg, BitVec.reduceHShiftLeft, BitVec.reduceHShiftRight, Nat.reduceAdd, Nat.reduceMul, Nat.reduceSub, Nat.reduceBEq, Nat.reduceEqDiff, Nat.reduceLeDiff, Nat.reduceLT, Int.reduceLE, Int.reduceLT, Int.reduceAdd, Int.reduceSub, Int.reduceMul, Int.reduceNeg, Int.reduceToNat, Int.reduceEq, ↓reduceIte, reduceCtorEq, l0, gn, kI, k0, k8, e1, b0, b1, g8', gs, hm, ng7]))
              exact ⟨k + 1, by omega, by omega, nx _ _ A nn.symm (by simp only [h_rfrom, hA0, if_false]; exact subH_pre H ⟨.inr rfl, .inl rfl, .inr rfl, trivial⟩) (by simp [Am.get, v_rfrom, hA0])⟩
          · have nn := yes hm
            by_cases hA0 : A = []
            · subst hA0
              simp only [v_rfrom, h_rfrom, if_true]
              (try simp (config := { maxSteps := 10000000 }) only [go_sem, List.reduceReplicate, BitVec.reduceOfInt, BitVec.reduceToNat, BitVec.reduceToInt, BitVec.reduceEq, BitVec.reduceLT, BitVec.reduceLE, BitVec.reduceAdd, BitVec.reduceSub, BitVec.reduceMul, BitVec.reduceUDiv, BitVec.reduceUMod, BitVec.reduceAnd, BitVec.reduceOr, BitVec.reduceXOr, BitVec.reduceNot, BitVec.reduceNeg, BitVec.reduceHShiftLeft, BitVec.reduceHShiftRight, Nat.reduceAdd, Nat.reduceMul, Nat.reduceSub, Nat.reduceBEq, Nat.reduceEqDiff, Nat.reduceLeDiff, Nat.reduceLT, Int.reduceLE, Int.reduceLT, Int.reduceAdd, Int.reduceSub, Int.reduceMul, Int.reduceNeg, Int.reduceToNat, Int.reduceEq, ↓reduceIte, reduceCtorEq, l0, gn, kI, k0, k8, e1, b0, b1, g8', gs, hm, ng7]; repeat (simp (disch := omega) only [w64_d, ipos, ineg, dpos, dneg]; try simp (config := { maxSteps := 10000000 }) only [go_sem, List.reduceReplicate, BitVec.reduceOfInt, BitVec.reduceToNat, BitVec.reduceToInt, BitVec.reduceEq, BitVec.reduceLT, BitVec.reduceLE, BitVec.reduceAdd, BitVec.reduceSub, BitVec.reduceMul, BitVec.reduceUDiv, BitVec.reduceUMod, BitVec.reduceAnd, BitVec.reduceOr, BitVec.reduceXOr, BitVec.reduceNot, BitVec.reduceNeg, BitVec.reduceHShiftLeft, BitVec.reduceHShiftRight, Nat.reduceAdd, Nat.reduceMul, Nat.reduceSub, Nat.reduceBEq, Nat.reduceEqDiff, Nat.reduceLeDiff, Nat.reduceLT, Int.reduceLE, Int.reduceLT, Int.reduceAdd, Int.reduceSub, Int.reduceMul, Int.reduceNeg, Int.reduceToNat, Int.reduceEq, ↓reduceIte, reduceCtorEq, l0, gn, kI, k0, k8, e1, b0, b1, g8', gs, hm, ng7]))
              refine ⟨k + 1, by omega, by omega, nx _ _ [(k : Int)] (by rw [nn]; rfl) ?_ ?_⟩
              · simp only [h_rfrom, List.flatMap_cons, List.flatMap_nil, List.append_nil]
                exact subH_pre H ⟨.inr rfl, .inl rfl, .inr rfl, trivial⟩
              · simp [Am.get, v_rfrom]
            · simp only [v_rfrom, h_rfrom, hA0, if_false]
              (try simp (config := { maxSteps := 10000000 }) only [go_sem, List.reduceReplicate, BitVec.reduceOfInt, BitVec.reduceToNat, BitVec.reduceToInt, BitVec.reduceEq, BitVec.reduceLT, BitVec.reduceLE, BitVec.reduceAdd, BitVec.reduceSub, BitVec.reduceMul, BitVec.reduceUDiv, BitVec.reduceUMod, BitVec.reduceAnd, BitVec.reduceOr, BitVec.reduceXOr, BitVec.reduceNot, BitVec.reduceNeg, BitVec.reduceHShiftLeft, BitVec.reduceHShiftRight, Nat.reduceAdd, Nat.reduceMul, Nat.reduceSub, Nat.reduceBEq, Nat.reduceEqDiff, Nat.reduceLeDiff, Nat.reduceLT, Int.reduceLE, Int.reduceLT, Int.reduceAdd, Int.reduceSub, Int.reduceMul, Int.reduceNeg, Int.reduceToNat, Int.reduceEq, ↓reduceIte, reduceCtorEq, l0, gn, kI, k0, k8, e1, b0, b1, g8', gs, hm, ng7, fl, c1]; repeat (simp (disch := omega) only [w64_d, ipos, ineg, dpos, dneg]; try simp (config := { maxSteps := 10000000 }) only [go_sem, List.reduceReplicate, BitVec.reduceOfInt, BitVec.reduceToNat, BitVec.reduceToInt, BitVec.reduceEq, BitVec.reduceLT, BitVec.reduceLE, BitVec.reduceAdd, BitVec.reduceSub, BitVec.reduceMul, BitVec.reduceUDiv, BitVec.reduceUMod, BitVec.reduceAnd, BitVec.reduceOr, BitVec.reduceXOr, BitVec.reduceNot, BitVec.reduceNeg, BitVec.reduceHShiftLeft, BitVec.reduceHShiftRight, Nat.reduceAdd, Nat.reduceMul, Nat.reduceSub, Nat.reduceBEq, Nat.reduceEqDiff, Nat.reduceLeDiff, Nat.reduceLT, Int.reduceLE, Int.reduceLT, Int.reduceAdd, Int.reduceSub, Int.reduceMul, Int.reduceNeg, Int.reduceToNat, Int.reduceEq, ↓reduceIte, reduceCtorEq, l0, gn, kI, k0, k8, e1, b0, b1, g8', gs, hm, ng7, fl, c1]))
              have hne : A ++ [(k : Int)] ≠ [] := by simp
              refine ⟨k + 1, by omega, by omega, nx _ _ (A ++ [(k : Int)]) nn.symm ?_ ?_⟩
              · simp only [h_rfrom, hne, if_false, fa]
                exact subH_pre H ⟨.inr rfl, .inl rfl, .inr rfl, trivial⟩
              · simp [Am.get, v_rfrom]
      · simp at h
    · simp at h
  · simp at h

end
end Go.Proofs.Ythjhkckndnhjpaa
