/- Layer 29: mail: From: contracts. -/
import Derived.Test.YthjhkckndnhjpaaMa6
namespace Go.Proofs.Ythjhkckndnhjpaa
open Go.Am
set_option linter.unusedSimpArgs false
set_option linter.unusedVariables false
noncomputable section

theorem subH_pre {A B : AH} (P : AH) (h : subH A B) : subH (P ++ A) (P ++ B) := by
  induction P with
  | nil => exact h
  | cons o P ih => exact ⟨.inr rfl, ih⟩
theorem fin_e {n : Nat} {v : AV} {H : AH} : ∃ v', some v = some v' ∧ Wk n [(0, v')] H ([(0, v)], H) :=
  ⟨_, rfl, fun ρ _ _ h1 h2 => ⟨ρ, h1, h2, fun i _ hi hL _ => ⟨i, hi, hL⟩, fun _ _ => rfl⟩⟩
def fromL (p : Nat → Bool) (k : Nat) : List Int := ((List.range k).filter p).map Int.ofNat
theorem from_s (p : Nat → Bool) (k : Nat) : fromL p (k + 1) = fromL p k ++ (if p k = true then [(k : Int)] else []) := by
  unfold fromL
  rw [List.range_succ, List.filter_append, List.map_append]
  congr 1
  cases h : p k <;> simp [h]
theorem from_len (p : Nat → Bool) (k : Nat) : (fromL p k).length ≤ k := by
  unfold fromL
  rw [List.length_map]
  have := List.length_filter_le p (List.range k)
  rwa [List.length_range] at this
theorem intI_bel (A : List Int) (n : Nat) : (A.flatMap encI).all (Sc.bel n) = true := by
  rw [List.all_flatMap]; exact List.all_eq_true.2 fun e _ => rfl
def v_mfrom (H : AH) (A : List Int) : Sc := if A = [] then .nils else .sl (H.length + 1) 0 A.length A.length
def h_mfrom (H : AH) (A : List Int) : AH := if A = [] then H else H ++ [.dead, .vec 1 (A.flatMap encI)]
theorem hb_mfrom {H : AH} (hH : belH H = true) (A : List Int) : belH (h_mfrom H A) = true := by
  unfold h_mfrom
  split
  · exact hH
  · unfold belH
    rw [List.all_append, Bool.and_eq_true]
    refine ⟨List.all_eq_true.2 fun o ho => List.all_eq_true.2 fun s hs => ?_, ?_⟩
    · exact Sc.bel_mono (List.all_eq_true.1 (List.all_eq_true.1 hH o ho) s hs) (by simp)
    · simp only [List.all_cons, List.all_nil, Bool.and_true, oc_vec, intI_bel, AObj.cells]
def s_mfrom (args : List AV) (H : AH) : Option (AV × AH) :=
  match args with
  | [.c (.p id 0 0), .c (.i b)] =>
    match mlD (hg H id) with
    | some (n, B) => if n ≤ 8 then some (.c (v_mfrom H (fromL (fun i => (slotV n B i b).s) n.toNat)), h_mfrom H (fromL (fun i => (slotV n B i b).s) n.toNat)) else none
    | none => none
  | _ => none
theorem s_mfrom_eq {id : Nat} {n b : Int} {B : List Row} {H : AH} (e : hg H id = .own (mlC n B)) (hB : B.length = 8) (hn : n ≤ 8) : s_mfrom [.c (.p id 0 0), .c (.i b)] H = some (.c (v_mfrom H (fromL (fun i => (slotV n B i b).s) n.toNat)), h_mfrom H (fromL (fun i => (slotV n B i b).s) n.toNat)) := by
  simp only [s_mfrom, e, mlD_of hB, hn, if_true]
theorem len_mfrom (args : List AV) (H : AH) (v : AV) (H1 : AH) (h : s_mfrom args H = some (v, H1)) : H.length ≤ H1.length := by
  unfold s_mfrom at h
  split at h
  · split at h
    · split at h
      · simp only [Option.some.injEq, Prod.mk.injEq] at h
        rw [← h.2]
        unfold h_mfrom
        split <;> simp
      · simp at h
    · simp at h
  · simp at h
set_option maxHeartbeats 8000000 in
set_option maxRecDepth 100000 in
set_option maxHeartbeats 2000000 in
theorem ok_mfrom : FpOk Try.prog 22 s_mfrom := by
  refine fp_ok (s := s_mfrom) (tab := [(20, .fq s_mslot)]) hmix (TabOk.cons (e := .fq s_mslot) ok_mslot TabOk.nil) Try.func22 rfl Try.results22 Try.ntmps22 (by kernel_rfl) (by kernel_rfl) len_mfrom ?_
  intro args H v H1 h hargs hH
  unfold s_mfrom at h
  split at h
  · rename_i id b
    split at h
    · rename_i n B hm
      split at h
      · rename_i hn
        simp only [Option.some.injEq, Prod.mk.injEq] at h
        obtain ⟨rfl, rfl⟩ := h
        refine ⟨by simp only [List.length_cons, List.length_nil]; decide, ?_⟩
        obtain ⟨e, hB⟩ := mlD_inv hm
        have lid : id < H.length := hg_lt (by rw [e]; rfl)
        have gx : ∀ X, hg (H ++ X) id = .own (mlC n B) := fun X => by rw [hg_lt' lid]; exact e
        have q : ∀ X x, s_mslot [.c (.p id 0 0), .c (.i x), .c (.i b)] (H ++ X) = some (.g (encR (slotV n B x b))) := fun X x => s_mslot_eq (gx X) hB hn
        have q0 : ∀ x, s_mslot [.c (.p id 0 0), .c (.i x), .c (.i b)] H = some (.g (encR (slotV n B x b))) := fun x => s_mslot_eq e hB hn
        have l0 := mlC_len n hB
        have gn : (mlC n B).getD 0 .any = .i n := rfl
        have gr : ∀ r, (encR r).getD 0 .any = .b r.s := fun r => rfl
        (try simp (config := { maxSteps := 10000000 }) only [go_sem, List.reduceReplicate, BitVec.reduceOfInt, BitVec.reduceToNat, BitVec.reduceToInt, BitVec.reduceEq, BitVec.reduceLT, BitVec.reduceLE, BitVec.reduceAdd, BitVec.reduceSub, BitVec.reduceMul, BitVec.reduceUDiv, BitVec.reduceUMod, BitVec.reduceAnd, BitVec.reduceOr, BitVec.reduceXOr, BitVec.reduceNot, BitVec.reduceNeg, BitVec.reduceHShiftLeft, BitVec.reduceHShiftRight, Nat.reduceAdd, Nat.reduceMul, Nat.reduceSub, Nat.reduceBEq, Nat.reduceEqDiff, Nat.reduceLeDiff, Nat.reduceLT, Int.reduceLE, Int.reduceLT, Int.reduceAdd, Int.reduceSub, Int.reduceMul, Int.reduceNeg, Int.reduceToNat, Int.reduceEq, ↓reduceIte, reduceCtorEq, e, l0, gn]; repeat (simp (disch := omega) only [w64_d, ipos, ineg, dpos, dneg]; try simp (config := { maxSteps := 10000000 }) only [go_sem, List.reduceReplicate, BitVec.reduceOfInt, BitVec.reduceToNat, BitVec.reduceToInt, BitVec.reduceEq, BitVec.reduceLT, BitVec.reduceLE, BitVec.reduceAdd, BitVec.reduceSub, BitVec.reduceMul, BitVec.reduceUDiv, BitVec.reduceUMod, BitVec.reduceAnd, BitVec.reduceOr, BitVec.reduceXOr, BitVec.reduceNot, BitVec.reduceNeg, BitVec.reduceHShiftLeft, BitVec.reduceHShiftRight, Nat.reduceAdd, Nat.reduceMul, Nat.reduceSub, Nat.reduceBEq, Nat.reduceEqDiff, Nat.reduceLeDiff, Nat.reduceLT, Int.reduceLE, Int.reduceLT, Int.reduceAdd, Int.reduceSub, Int.reduceMul, Int.reduceNeg, Int.reduceToNat, Int.reduceEq, ↓reduceIte, reduceCtorEq, e, l0, gn]))
        refine arun_for n.toNat (fun k => ([(0, .c (.p id 0 0)), (1, .c (.i b)), (5, .c (v_mfrom H (fromL (fun i => (slotV n B i b).s) k))), (13, .c (.i n)), (14, .c (.i (k : Nat)))], h_mfrom H (fromL (fun i => (slotV n B i b).s) k))) ?_ fun k hk => ?_
        · have e0 : fromL (fun i => (slotV n B i b).s) 0 = [] := rfl
          simp only [e0, v_mfrom, h_mfrom, if_true]
          exact Wk.wk (by simp [lo]) (by simp [Am.get]) (by simp [AV.bel, Sc.bel, lid]) (subH_refl _) hH
        · have nx : ∀ (fr : Fr) (H2 : AH) (A : List Int), A = fromL (fun i => (slotV n B i b).s) (k + 1) → subH (h_mfrom H A) H2 → (∀ p ∈ ([(0, .c (.p id 0 0)), (1, .c (.i b)), (5, .c (v_mfrom H A)), (13, .c (.i n)), (14, .c (.i (k + 1 : Nat)))] : Fr), Am.get fr p.1 = p.2) →
              Wk H.length fr H2 ([(0, .c (.p id 0 0)), (1, .c (.i b)), (5, .c (v_mfrom H (fromL (fun i => (slotV n B i b).s) (k + 1)))), (13, .c (.i n)), (14, .c (.i (k + 1 : Nat)))], h_mfrom H (fromL (fun i => (slotV n B i b).s) (k + 1))) := by
            intro fr H2 A hA hs hf
            rw [← hA]
            refine Wk.wk (by unfold h_mfrom; split <;> simp) hf ?_ hs (hb_mfrom hH _)
            have l1 : H.length ≤ (h_mfrom H A).length := by unfold h_mfrom; split <;> simp
            have bv : (v_mfrom H A).bel (h_mfrom H A).length = true := by
              unfold v_mfrom h_mfrom
              split
              · rfl
              · simp [Sc.bel]
            have hi : (Sc.p id 0 0).bel (h_mfrom H A).length = true := by simp [Sc.bel]; omega
            simp only [List.all_cons, List.all_nil, Bool.and_true, Bool.and_eq_true, AV.bel]
            exact ⟨hi, rfl, bv, rfl, rfl⟩
          have k0 : (0 : Int) ≤ (k : Int) := by omega
          have hal := from_len (fun i => (slotV n B i b).s) k
          by_cases hlt : k < n.toNat
          rotate_left
          · obtain rfl : k = n.toNat := by omega
            have kI : ¬ ((n.toNat : Int) < n) := by omega
            (try simp (config := { maxSteps := 10000000 }) only [go_sem, List.reduceReplicate, BitVec.reduceOfInt, BitVec.reduceToNat, BitVec.reduceToInt, BitVec.reduceEq, BitVec.reduceLT, BitVec.reduceLE, BitVec.reduceAdd, BitVec.reduceSub, BitVec.reduceMul, BitVec.reduceUDiv, BitVec.reduceUMod, BitVec.reduceAnd, BitVec.reduceOr, BitVec.reduceXOr, BitVec.reduceNot, BitVec.reduceNeg, BitVec.reduceHShiftLeft, BitVec.reduceHShiftRight, Nat.reduceAdd, Nat.reduceMul, Nat.reduceSub, Nat.reduceBEq, Nat.reduceEqDiff, Nat.reduceLeDiff, Nat.reduceLT, Int.reduceLE, Int.reduceLT, Int.reduceAdd, Int.reduceSub, Int.reduceMul, Int.reduceNeg, Int.reduceToNat, Int.reduceEq, ↓reduceIte, reduceCtorEq, kI]; repeat (simp (disch := omega) only [w64_d, ipos, ineg, dpos, dneg]; try simp (config := { maxSteps := 10000000 }) only [go_sem, List.reduceReplicate, BitVec.reduceOfInt, BitVec.reduceToNat, BitVec.reduceToInt, BitVec.reduceEq, BitVec.reduceLT, BitVec.reduceLE, BitVec.reduceAdd, BitVec.reduceSub, BitVec.reduceMul, BitVec.reduceUDiv, BitVec.reduceUMod, BitVec.reduceAnd, BitVec.reduceOr, BitVec.reduceXOr, BitVec.reduceNot, BitVec.reduceNeg, BitVec.reduceHShiftLeft, BitVec.reduceHShiftRight, Nat.reduceAdd, Nat.reduceMul, Nat.reduceSub, Nat.reduceBEq, Nat.reduceEqDiff, Nat.reduceLeDiff, Nat.reduceLT, Int.reduceLE, Int.reduceLT, Int.reduceAdd, Int.reduceSub, Int.reduceMul, Int.reduceNeg, Int.reduceToNat, Int.reduceEq, ↓reduceIte, reduceCtorEq, kI]))
            exact fin_e
          have kI : ((k : Int) < n) := by omega
          have hst := from_s (fun i => (slotV n B i b).s) k
          have e1 : w64 ((k : Int) + 1) = ((k + 1 : Nat) : Int) := by rw [w64_of (by omega)]; omega
          generalize hA : fromL (fun i => (slotV n B i b).s) k = A at hst hal ⊢
          have fl : True → (A.flatMap encI).length = A.length := fun _ => by rw [fm_len encI_l, Nat.mul_one]
          have c1 : ((A.length + 1) * 8 ≤ 1099511627776) = True := eq_true <| Nat.le_trans (Nat.mul_le_mul_right 8 (show A.length + 1 ≤ 1000001 by omega)) (by decide)
          have fa : (A ++ [(k : Int)]).flatMap encI = A.flatMap encI ++ [.i k] := by rw [fm_app]; simp [encI]
          cases hm : (slotV n B k b).s
          · simp only [hm] at hst
            rw [if_neg (by decide), List.append_nil] at hst
            by_cases hA0 : A = []
            · subst hA0
              simp only [v_mfrom, h_mfrom, if_true]
              (try simp (config := { maxSteps := 10000000 }) only [go_sem, List.reduceReplicate, BitVec.reduceOfInt, BitVec.reduceToNat, BitVec.reduceToInt, BitVec.reduceEq, BitVec.reduceLT, BitVec.reduceLE, BitVec.reduceAdd, BitVec.reduceSub, BitVec.reduceMul, BitVec.reduceUDiv, BitVec.reduceUMod, BitVec.reduceAnd, BitVec.reduceOr, BitVec.reduceXOr, BitVec.reduceNot, BitVec.reduceNeg, BitVec.reduceHShiftLeft, BitVec.reduceHShiftRight, Nat.reduceAdd, Nat.reduceMul, Nat.reduceSub, Nat.reduceBEq, Nat.reduceEqDiff, Nat.reduceLeDiff, Nat.reduceLT, Int.reduceLE, Int.reduceLT, Int.reduceAdd, Int.reduceSub, Int.reduceMul, Int.reduceNeg, Int.reduceToNat, Int.reduceEq, ↓reduceIte, reduceCtorEq, q, q0, gr, encR_l, hm, kI, k0, e1]; repeat (simp (disch := omega) only [w64_d, ipos, ineg, dpos, dneg]; try simp (config := { maxSteps := 10000000 }) only [go_sem, List.reduceReplicate, BitVec.reduceOfInt, BitVec.reduceToNat, BitVec.reduceToInt, BitVec.reduceEq, BitVec.reduceLT, BitVec.reduceLE, BitVec.reduceAdd, BitVec.reduceSub, BitVec.reduceMul, BitVec.reduceUDiv, BitVec.reduceUMod, BitVec.reduceAnd, BitVec.reduceOr, BitVec.reduceXOr, BitVec.reduceNot, BitVec.reduceNeg, BitVec.reduceHShiftLeft, BitVec.reduceHShiftRight, Nat.reduceAdd, Nat.reduceMul, Nat.reduceSub, Nat.reduceBEq, Nat.reduceEqDiff, Nat.reduceLeDiff, Nat.reduceLT, Int.reduceLE, Int.reduceLT, Int.reduceAdd, Int.reduceSub, Int.reduceMul, Int.reduceNeg, Int.reduceToNat, Int.reduceEq, ↓reduceIte, reduceCtorEq, q, q0, gr, encR_l, hm, kI, k0, e1]))
              exact ⟨k + 1, by omega, by omega, nx _ _ [] hst.symm (by simp only [h_mfrom, if_true]; first | exact subH_refl _ | exact subH_app _ _) (by simp [Am.get, v_mfrom])⟩
            · simp only [v_mfrom, h_mfrom, hA0, if_false]
              (try simp (config := { maxSteps := 10000000 }) only [go_sem, List.reduceReplicate, BitVec.reduceOfInt, BitVec.reduceToNat, BitVec.reduceToInt, BitVec.reduceEq, BitVec.reduceLT, BitVec.reduceLE, BitVec.reduceAdd, BitVec.reduceSub, BitVec.reduceMul, BitVec.reduceUDiv, BitVec.reduceUMod, BitVec.reduceAnd, BitVec.reduceOr, BitVec.reduceXOr, BitVec.reduceNot, BitVec.reduceNeg, BitVec.reduceHShiftLeft, BitVec.reduceHShiftRight, Nat.reduceAdd, Nat.reduceMul, Nat.reduceSub, Nat.reduceBEq, Nat.reduceEqDiff, Nat.reduceLeDiff, Nat.reduceLT, Int.reduceLE, Int.reduceLT, Int.reduceAdd, Int.reduceSub, Int.reduceMul, Int.reduceNeg, Int.reduceToNat, Int.reduceEq, ↓reduceIte, reduceCtorEq, q, q0, gr, encR_l, hm, kI, k0, e1]; repeat (simp (disch := omega) only [w64_d, ipos, ineg, dpos, dneg]; try simp (config := { maxSteps := 10000000 }) only [go_sem, List.reduceReplicate, BitVec.reduceOfInt, BitVec.reduceToNat, BitVec.reduceToInt, BitVec.reduceEq, BitVec.reduceLT, BitVec.reduceLE, BitVec.reduceAdd, BitVec.reduceSub, BitVec.reduceMul, BitVec.reduceUDiv, BitVec.reduceUMod, BitVec.reduceAnd, BitVec.reduceOr, BitVec.reduceXOr, BitVec.reduceNot, BitVec.reduceNeg, BitVec.reduceHShiftLeft, BitVec.reduceHShiftRight, Nat.reduceAdd, Nat.reduceMul, Nat.reduceSub, Nat.reduceBEq, Nat.reduceEqDiff, Nat.reduceLeDiff, Nat.reduceLT, Int.reduceLE, Int.reduceLT, Int.reduceAdd, Int.reduceSub, Int.reduceMul, Int.reduceNeg, Int.reduceToNat, Int.reduceEq, ↓reduceIte, reduceCtorEq, q, q0, gr, encR_l, hm, kI, k0, e1]))
              exact ⟨k + 1, by omega, by omega, nx _ _ A hst.symm (by simp only [h_mfrom, hA0, if_false]; exact subH_pre H ⟨.inl rfl, .inr rfl, trivial⟩) (by simp [Am.get, v_mfrom, hA0])⟩
          · simp only [hm] at hst
            rw [if_pos trivial] at hst
            by_cases hA0 : A = []
            · subst hA0
              simp only [v_mfrom, h_mfrom, if_true]
              (try simp (config := { maxSteps := 10000000 }) only [go_sem, List.reduceReplicate, BitVec.reduceOfInt, BitVec.reduceToNat, BitVec.reduceToInt, BitVec.reduceEq, BitVec.reduceLT, BitVec.reduceLE, BitVec.reduceAdd, BitVec.reduceSub, BitVec.reduceMul, BitVec.reduceUDiv, BitVec.reduceUMod, BitVec.reduceAnd, BitVec.reduceOr, BitVec.reduceXOr, BitVec.reduceNot, BitVec.reduceNeg, BitVec.reduceHShiftLeft, BitVec.reduceHShiftRight, Nat.reduceAdd, Nat.reduceMul, Nat.reduceSub, Nat.reduceBEq, Nat.reduceEqDiff, Nat.reduceLeDiff, Nat.reduceLT, Int.reduceLE, Int.reduceLT, Int.reduceAdd, Int.reduceSub, Int.reduceMul, Int.reduceNeg, Int.reduceToNat, Int.reduceEq, ↓reduceIte, reduceCtorEq, q, q0, gr, encR_l, hm, kI, k0, e1]; repeat (simp (disch := omega) only [w64_d, ipos, ineg, dpos, dneg]; try simp (config := { maxSteps := 10000000 }) only [go_sem, List.reduceReplicate, BitVec.reduceOfInt, BitVec.reduceToNat, BitVec.reduceToInt, BitVec.reduceEq, BitVec.reduceLT, BitVec.reduceLE, BitVec.reduceAdd, BitVec.reduceSub, BitVec.reduceMul, BitVec.reduceUDiv, BitVec.reduceUMod, BitVec.reduceAnd, BitVec.reduceOr, BitVec.reduceXOr, BitVec.reduceNot, BitVec.reduceNeg, BitVec.reduceHShiftLeft, BitVec.reduceHShiftRight, Nat.reduceAdd, Nat.reduceMul, Nat.reduceSub, Nat.reduceBEq, Nat.reduceEqDiff, Nat.reduceLeDiff, Nat.reduceLT, Int.reduceLE, Int.reduceLT, Int.reduceAdd, Int.reduceSub, Int.reduceMul, Int.reduceNeg, Int.reduceToNat, Int.reduceEq, ↓reduceIte, reduceCtorEq, q, q0, gr, encR_l, hm, kI, k0, e1]))
              refine ⟨k + 1, by omega, by omega, nx _ _ [(k : Int)] (by rw [hst]; rfl) ?_ ?_⟩
              · simp only [h_mfrom, List.flatMap_cons, List.flatMap_nil, List.append_nil]
                exact subH_pre H ⟨.inl rfl, .inr rfl, trivial⟩
              · simp [Am.get, v_mfrom]
            · simp only [v_mfrom, h_mfrom, hA0, if_false]
              (try simp (config := { maxSteps := 10000000 }) only [go_sem, List.reduceReplicate, BitVec.reduceOfInt, BitVec.reduceToNat, BitVec.reduceToInt, BitVec.reduceEq, BitVec.reduceLT, BitVec.reduceLE, BitVec.reduceAdd, BitVec.reduceSub, BitVec.reduceMul, BitVec.reduceUDiv, BitVec.reduceUMod, BitVec.reduceAnd, BitVec.reduceOr, BitVec.reduceXOr, BitVec.reduceNot, BitVec.reduceNeg, BitVec.reduceHShiftLeft, BitVec.reduceHShiftRight, Nat.reduceAdd, Nat.reduceMul, Nat.reduceSub, Nat.reduceBEq, Nat.reduceEqDiff, Nat.reduceLeDiff, Nat.reduceLT, Int.reduceLE, Int.reduceLT, Int.reduceAdd, Int.reduceSub, Int.reduceMul, Int.reduceNeg, Int.reduceToNat, Int.reduceEq, ↓reduceIte, reduceCtorEq, q, q0, gr, encR_l, hm, kI, k0, e1, fl, c1]; repeat (simp (disch := omega) only [w64_d, ipos, ineg, dpos, dneg]; try simp (config := { maxSteps := 10000000 }) only [go_sem, List.reduceReplicate, BitVec.reduceOfInt, BitVec.reduceToNat, BitVec.reduceToInt, BitVec.reduceEq, BitVec.reduceLT, BitVec.reduceLE, BitVec.reduceAdd, BitVec.reduceSub, BitVec.reduceMul, BitVec.reduceUDiv, BitVec.reduceUMod, BitVec.reduceAnd, BitVec.reduceOr, BitVec.reduceXOr, BitVec.reduceNot, BitVec.reduceNeg, BitVec.reduceHShiftLeft, BitVec.reduceHShiftRight, Nat.reduceAdd, Nat.reduceMul, Nat.reduceSub, Nat.reduceBEq, Nat.reduceEqDiff, Nat.reduceLeDiff, Nat.reduceLT, Int.reduceLE, Int.reduceLT, Int.reduceAdd, Int.reduceSub, Int.reduceMul, Int.reduceNeg, Int.reduceToNat, Int.reduceEq, ↓reduceIte, reduceCtorEq, q, q0, gr, encR_l, hm, kI, k0, e1, fl, c1]))
              have hne : A ++ [(k : Int)] ≠ [] := by simp
              refine ⟨k + 1, by omega, by omega, nx _ _ (A ++ [(k : Int)]) hst.symm ?_ ?_⟩
              · simp only [h_mfrom, hne, if_false, fa]
                exact subH_pre H ⟨.inl rfl, .inr rfl, trivial⟩
              · simp [Am.get, v_mfrom]
      · simp at h
    · simp at h
  · simp at h

end
end Go.Proofs.Ythjhkckndnhjpaa
