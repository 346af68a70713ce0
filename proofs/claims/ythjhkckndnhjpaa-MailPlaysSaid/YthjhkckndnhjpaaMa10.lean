/- Layer 29: mail and the reference's mail alike: contract. -/
import Derived.Test.YthjhkckndnhjpaaMa9
namespace Go.Proofs.Ythjhkckndnhjpaa
open Go.Am
set_option linter.unusedSimpArgs false
set_option linter.unusedVariables false
noncomputable section

/-- mail stands as the reference's mail does -/
def trn (n : Int) (B R : List Row) : Prop := ∀ i j : Nat, i < 8 → j < 8 → slotR R i j = slotV n B i j
theorem from_eq {n b : Int} {B R : List Row} (hn : n ≤ 8) (h : trn n B R) : fromL (rfP n R b) n.toNat = fromL (fun i => (slotV n B i b).s) n.toNat := by
  unfold fromL
  congr 1
  refine List.filter_congr fun i hi => ?_
  rw [List.mem_range] at hi
  unfold rfP
  cases hb : inH n b
  · unfold slotV; rw [if_neg (by simp [hb])]; rfl
  · have hb' := hb
    simp only [inH, Bool.and_eq_true, decide_eq_true_eq] at hb'
    obtain ⟨g, rfl⟩ := Int.eq_ofNat_of_zero_le hb'.1
    rw [Int.toNat_natCast, h i g (by omega) (by omega), Bool.true_and]
theorem slI_app {H X : AH} {x : Sc} {L : List Int} (h : slD 1 dcI H x = some L) (hb : x.bel H.length = true) : slD 1 dcI (H ++ X) x = some L := by
  cases x with
  | sl id off v n =>
    have lid : id < H.length := by simpa [Sc.bel] using hb
    cases off with
    | zero => simp only [slD] at h ⊢; rw [hg_lt' lid]; exact h
    | succ o => simp [slD] at h
  | _ => first | exact h | simp [slD] at h
theorem two_from {id : Nat} {n b : Int} {B R : List Row} {H : AH} (hH : belH H = true) (e : hg H id = .own (mlC n B)) (hB : B.length = 8) (hR : R.length = 8) (hn : n ≤ 8) (h : trn n B R) :
    ∃ v1 v2 H1 H2, s_mfrom [.c (.p id 0 0), .c (.i b)] H = some (.c v1, H1) ∧ s_rfrom [.g (mlC n R), .c (.i b)] H1 = some (.c v2, H2) ∧ s_ints29 [.c v1, .c v2] H2 = some (.c (.b true)) ∧ (∃ X, H1 = H ++ X) ∧ (∃ X, H2 = H ++ X) := by
  have e1 := s_mfrom_eq (b := b) e hB hn
  have e2 := s_rfrom_eq (b := b) (H := h_mfrom H (fromL (fun i => (slotV n B i b).s) n.toNat)) hR hn
  rw [from_eq hn h] at e2
  have fl := from_len (fun i => (slotV n B i b).s) n.toNat
  generalize hA : fromL (fun i => (slotV n B i b).s) n.toNat = A at e1 e2 fl
  obtain ⟨X, hX⟩ : ∃ X, h_mfrom H A = H ++ X := by
    unfold h_mfrom
    split
    · exact ⟨[], by simp⟩
    · exact ⟨_, rfl⟩
  obtain ⟨Y, hY⟩ : ∃ Y, h_rfrom (h_mfrom H A) (mlC n R) A = h_mfrom H A ++ Y := by
    unfold h_rfrom
    split
    · exact ⟨_, rfl⟩
    · exact ⟨_, rfl⟩
  have s1 : slD 1 dcI (h_mfrom H A) (v_mfrom H A) = some A := by
    unfold v_mfrom h_mfrom
    split
    · rename_i h0; rw [h0]; rfl
    · refine slD_of encI_l dcI_e ?_ rfl ?_
      · rw [hg_len_add]
        exact ((fm_len encI_l A).trans (Nat.mul_one _)).symm
      · rw [hg_len_add]
        rfl
  have bv : (v_mfrom H A).bel (h_mfrom H A).length = true := by
    unfold v_mfrom h_mfrom
    split
    · rfl
    · simp [Sc.bel]
  have s2 : slD 1 dcI (h_rfrom (h_mfrom H A) (mlC n R) A) (v_rfrom (h_mfrom H A) A) = some A := by
    unfold v_rfrom h_rfrom
    split
    · rename_i h0; rw [h0]; rfl
    · refine slD_of encI_l dcI_e ?_ rfl ?_
      · rw [hg_len_add]
        exact ((fm_len encI_l A).trans (Nat.mul_one _)).symm
      · rw [hg_len_add]
        rfl
  have s3 : slD 1 dcI (h_rfrom (h_mfrom H A) (mlC n R) A) (v_mfrom H A) = some A := by rw [hY]; exact slI_app s1 bv
  exact ⟨_, _, _, _, e1, e2, s_ints29_of s3 s2 (by omega), ⟨X, hX⟩, ⟨X ++ Y, by rw [hY, hX, List.append_assoc]⟩⟩
open Classical in
def s_same29 (args : List AV) (H : AH) : Option AV :=
  match args with
  | [.c (.p id 0 0), .g m] =>
    match mlD (hg H id), mlD (.own m) with
    | some (n, B), some (n', R) => if n = n' ∧ n ≤ 8 ∧ trn n B R then some (.c (.b true)) else none
    | _, _ => none
  | _ => none
theorem s_same29_of {id : Nat} {n : Int} {B R : List Row} {H : AH} (e : hg H id = .own (mlC n B)) (hB : B.length = 8) (hR : R.length = 8) (hn : n ≤ 8) (h : trn n B R) : s_same29 [.c (.p id 0 0), .g (mlC n R)] H = some (.c (.b true)) := by
  simp only [s_same29, e, mlD_of hB, mlD_of hR, hn, h, and_self, if_true]
set_option maxHeartbeats 8000000 in
set_option maxRecDepth 100000 in
set_option maxHeartbeats 2000000 in
theorem ok_same29 : FpOk Try.prog 14 (fun args H => (s_same29 args H).map fun v => (v, H)) := by
  refine fq_ok (s := s_same29) (tab := [(20, .fq s_mslot), (22, .fp s_mfrom), (23, .fp s_rfrom), (21, .fq s_ints29)]) hmix (TabOk.cons (e := .fq s_mslot) ok_mslot (TabOk.cons (e := .fp s_mfrom) ok_mfrom (TabOk.cons (e := .fp s_rfrom) ok_rfrom (TabOk.cons (e := .fq s_ints29) ok_ints29 TabOk.nil)))) Try.func14 rfl Try.results14 Try.ntmps14 (by kernel_rfl) (by kernel_rfl) ?_
  intro args H v h hargs hH
  unfold s_same29 at h
  split at h
  · rename_i id m
    split at h
    · rename_i n B n' R hm1 hm2
      split at h
      · rename_i hc
        obtain ⟨rfl, hn, htr⟩ := hc
        simp only [Option.some.injEq] at h
        subst h
        refine ⟨by simp only [List.length_cons, List.length_nil]; decide, rfl, ?_⟩
        obtain ⟨e, hB⟩ := mlD_inv hm1
        obtain ⟨e', hR⟩ := mlD_inv hm2
        simp only [AObj.own.injEq] at e'
        subst e'
        have lid : id < H.length := hg_lt (by rw [e]; rfl)
        have gx : ∀ X, hg (H ++ X) id = .own (mlC n B) := fun X => by rw [hg_lt' lid]; exact e
        have q : ∀ X x y, s_mslot [.c (.p id 0 0), .c (.i x), .c (.i y)] (H ++ X) = some (.g (encR (slotV n B x y))) := fun X x y => s_mslot_eq (gx X) hB hn
        have l0 := mlC_len n hR
        have mo := mlC_one n R
        have t0 : (mlC n R).take 321 = mlC n R := List.take_of_length_le (by omega)
        (try simp (config := { maxSteps := 10000000 }) only [go_sem, List.reduceReplicate, BitVec.reduceOfInt, BitVec.reduceToNat, BitVec.reduceToInt, BitVec.reduceEq, BitVec.reduceLT, BitVec.reduceLE, BitVec.reduceAdd, BitVec.reduceSub, BitVec.reduceMul, BitVec.reduceUDiv, BitVec.reduceUMod, BitVec.reduceAnd, BitVec.reduceOr, BitVec.reduceXOr, BitVec.reduceNot, BitVec.reduceNeg, BitVec.reduceHShiftLeft, BitVec.reduceHShiftRight, Nat.reduceAdd, Nat.reduceMul, Nat.reduceSub, Nat.reduceBEq, Nat.reduceEqDiff, Nat.reduceLeDiff, Nat.reduceLT, Int.reduceLE, Int.reduceLT, Int.reduceAdd, Int.reduceSub, Int.reduceMul, Int.reduceNeg, Int.reduceToNat, Int.reduceEq, ↓reduceIte, reduceCtorEq, l0, mo]; repeat (simp (disch := omega) only [w64_d, ipos, ineg, dpos, dneg]; try simp (config := { maxSteps := 10000000 }) only [go_sem, List.reduceReplicate, BitVec.reduceOfInt, BitVec.reduceToNat, BitVec.reduceToInt, BitVec.reduceEq, BitVec.reduceLT, BitVec.reduceLE, BitVec.reduceAdd, BitVec.reduceSub, BitVec.reduceMul, BitVec.reduceUDiv, BitVec.reduceUMod, BitVec.reduceAnd, BitVec.reduceOr, BitVec.reduceXOr, BitVec.reduceNot, BitVec.reduceNeg, BitVec.reduceHShiftLeft, BitVec.reduceHShiftRight, Nat.reduceAdd, Nat.reduceMul, Nat.reduceSub, Nat.reduceBEq, Nat.reduceEqDiff, Nat.reduceLeDiff, Nat.reduceLT, Int.reduceLE, Int.reduceLT, Int.reduceAdd, Int.reduceSub, Int.reduceMul, Int.reduceNeg, Int.reduceToNat, Int.reduceEq, ↓reduceIte, reduceCtorEq, l0, mo]))
        have hb0 : belH (H ++ [.own (mlC n R)]) = true := by have := hb_rfrom hH (fun k => mlC_bel n R k) []; rw [h_rfrom, if_pos rfl] at this; exact this
        have ll : ∀ a : AObj, (H ++ [a]).length = H.length + 1 := fun a => by simp
        have bi : (Sc.p id 0 0).bel (H.length + 1) = true := by simp [Sc.bel]; omega
        have bj : (Sc.p H.length 0 0).bel (H.length + 1) = true := by simp [Sc.bel]
        refine arun_for 10 (fun k => ([(0, .c (.p id 0 0)), (3, .c (.p H.length 0 0)), (5, .c (.i ((k : Int) - 1)))], H ++ [.own (mlC n R)])) ?_ fun k hk => ?_
        · exact Wk.wk (by simp [lo]) (by simp [Am.get]) (by simp only [ll, List.all_cons, List.all_nil, Bool.and_true, Bool.and_eq_true, AV.bel]; exact ⟨bi, bj, rfl⟩) (subH_refl _) hb0
        by_cases k10 : (k : Int) - 1 < 9
        rotate_left
        · (try simp (config := { maxSteps := 10000000 }) only [go_sem, List.reduceReplicate, BitVec.reduceOfInt, BitVec.reduceToNat, BitVec.reduceToInt, BitVec.reduceEq, BitVec.reduceLT, BitVec.reduceLE, BitVec.reduceAdd, BitVec.reduceSub, BitVec.reduceMul, BitVec.reduceUDiv, BitVec.reduceUMod, BitVec.reduceAnd, BitVec.reduceOr, BitVec.reduceXOr, BitVec.reduceNot, BitVec.reduceNeg, BitVec.reduceHShiftLeft, BitVec.reduceHShiftRight, Nat.reduceAdd, Nat.reduceMul, Nat.reduceSub, Nat.reduceBEq, Nat.reduceEqDiff, Nat.reduceLeDiff, Nat.reduceLT, Int.reduceLE, Int.reduceLT, Int.reduceAdd, Int.reduceSub, Int.reduceMul, Int.reduceNeg, Int.reduceToNat, Int.reduceEq, ↓reduceIte, reduceCtorEq, k10]; repeat (simp (disch := omega) only [w64_d, ipos, ineg, dpos, dneg]; try simp (config := { maxSteps := 10000000 }) only [go_sem, List.reduceReplicate, BitVec.reduceOfInt, BitVec.reduceToNat, BitVec.reduceToInt, BitVec.reduceEq, BitVec.reduceLT, BitVec.reduceLE, BitVec.reduceAdd, BitVec.reduceSub, BitVec.reduceMul, BitVec.reduceUDiv, BitVec.reduceUMod, BitVec.reduceAnd, BitVec.reduceOr, BitVec.reduceXOr, BitVec.reduceNot, BitVec.reduceNeg, BitVec.reduceHShiftLeft, BitVec.reduceHShiftRight, Nat.reduceAdd, Nat.reduceMul, Nat.reduceSub, Nat.reduceBEq, Nat.reduceEqDiff, Nat.reduceLeDiff, Nat.reduceLT, Int.reduceLE, Int.reduceLT, Int.reduceAdd, Int.reduceSub, Int.reduceMul, Int.reduceNeg, Int.reduceToNat, Int.reduceEq, ↓reduceIte, reduceCtorEq, k10]))
          exact subH_app _ _
        (try simp (config := { maxSteps := 10000000 }) only [go_sem, List.reduceReplicate, BitVec.reduceOfInt, BitVec.reduceToNat, BitVec.reduceToInt, BitVec.reduceEq, BitVec.reduceLT, BitVec.reduceLE, BitVec.reduceAdd, BitVec.reduceSub, BitVec.reduceMul, BitVec.reduceUDiv, BitVec.reduceUMod, BitVec.reduceAnd, BitVec.reduceOr, BitVec.reduceXOr, BitVec.reduceNot, BitVec.reduceNeg, BitVec.reduceHShiftLeft, BitVec.reduceHShiftRight, Nat.reduceAdd, Nat.reduceMul, Nat.reduceSub, Nat.reduceBEq, Nat.reduceEqDiff, Nat.reduceLeDiff, Nat.reduceLT, Int.reduceLE, Int.reduceLT, Int.reduceAdd, Int.reduceSub, Int.reduceMul, Int.reduceNeg, Int.reduceToNat, Int.reduceEq, ↓reduceIte, reduceCtorEq, k10]; repeat (simp (disch := omega) only [w64_d, ipos, ineg, dpos, dneg]; try simp (config := { maxSteps := 10000000 }) only [go_sem, List.reduceReplicate, BitVec.reduceOfInt, BitVec.reduceToNat, BitVec.reduceToInt, BitVec.reduceEq, BitVec.reduceLT, BitVec.reduceLE, BitVec.reduceAdd, BitVec.reduceSub, BitVec.reduceMul, BitVec.reduceUDiv, BitVec.reduceUMod, BitVec.reduceAnd, BitVec.reduceOr, BitVec.reduceXOr, BitVec.reduceNot, BitVec.reduceNeg, BitVec.reduceHShiftLeft, BitVec.reduceHShiftRight, Nat.reduceAdd, Nat.reduceMul, Nat.reduceSub, Nat.reduceBEq, Nat.reduceEqDiff, Nat.reduceLeDiff, Nat.reduceLT, Int.reduceLE, Int.reduceLT, Int.reduceAdd, Int.reduceSub, Int.reduceMul, Int.reduceNeg, Int.reduceToNat, Int.reduceEq, ↓reduceIte, reduceCtorEq, k10]))
        have e1 : w64 ((k : Int) - 1 + 1) = ((k + 1 : Nat) : Int) - 1 := by rw [w64_of (by omega)]; omega
        refine arun_for 10 (fun l => ([(0, .c (.p id 0 0)), (3, .c (.p H.length 0 0)), (5, .c (.i ((k : Int) - 1))), (6, .c (.i ((l : Int) - 1)))], H ++ [.own (mlC n R)])) ?_ fun l hl => ?_
        · exact Wk.wk (by simp [lo]) (by simp [Am.get]) (by simp only [ll, List.all_cons, List.all_nil, Bool.and_true, Bool.and_eq_true, AV.bel]; exact ⟨bi, bj, rfl, rfl⟩) (subH_refl _) hb0
        by_cases l10 : (l : Int) - 1 < 9
        rotate_left
        · obtain ⟨v1, v2, H1, H2, m1, m2, m3, ⟨X, hX⟩, ⟨Z, hZ⟩⟩ := two_from (b := (k : Int) - 1) hb0 (gx _) hB hR hn htr
          have g9 : hg H1 H.length = .own (mlC n R) := by rw [hX, List.append_assoc, hg_len]; rfl
          have g10 : hg H2 H.length = .own (mlC n R) := by rw [hZ, List.append_assoc, hg_len]; rfl
          (try simp (config := { maxSteps := 10000000 }) only [go_sem, List.reduceReplicate, BitVec.reduceOfInt, BitVec.reduceToNat, BitVec.reduceToInt, BitVec.reduceEq, BitVec.reduceLT, BitVec.reduceLE, BitVec.reduceAdd, BitVec.reduceSub, BitVec.reduceMul, BitVec.reduceUDiv, BitVec.reduceUMod, BitVec.reduceAnd, BitVec.reduceOr, BitVec.reduceXOr, BitVec.reduceNot, BitVec.reduceNeg, BitVec.reduceHShiftLeft, BitVec.reduceHShiftRight, Nat.reduceAdd, Nat.reduceMul, Nat.reduceSub, Nat.reduceBEq, Nat.reduceEqDiff, Nat.reduceLeDiff, Nat.reduceLT, Int.reduceLE, Int.reduceLT, Int.reduceAdd, Int.reduceSub, Int.reduceMul, Int.reduceNeg, Int.reduceToNat, Int.reduceEq, ↓reduceIte, reduceCtorEq, l10, m1, m2, m3, g9, l0, t0, e1]; repeat (simp (disch := omega) only [w64_d, ipos, ineg, dpos, dneg]; try simp (config := { maxSteps := 10000000 }) only [go_sem, List.reduceReplicate, BitVec.reduceOfInt, BitVec.reduceToNat, BitVec.reduceToInt, BitVec.reduceEq, BitVec.reduceLT, BitVec.reduceLE, BitVec.reduceAdd, BitVec.reduceSub, BitVec.reduceMul, BitVec.reduceUDiv, BitVec.reduceUMod, BitVec.reduceAnd, BitVec.reduceOr, BitVec.reduceXOr, BitVec.reduceNot, BitVec.reduceNeg, BitVec.reduceHShiftLeft, BitVec.reduceHShiftRight, Nat.reduceAdd, Nat.reduceMul, Nat.reduceSub, Nat.reduceBEq, Nat.reduceEqDiff, Nat.reduceLeDiff, Nat.reduceLT, Int.reduceLE, Int.reduceLT, Int.reduceAdd, Int.reduceSub, Int.reduceMul, Int.reduceNeg, Int.reduceToNat, Int.reduceEq, ↓reduceIte, reduceCtorEq, l10, m1, m2, m3, g9, l0, t0, e1]))
          repeat (refine And.intro (by (repeat' apply And.intro) <;> first | decide | (intro hx; first | exact absurd g10 hx | decide)) ?_)
          exact ⟨k + 1, by omega, by omega, Wk.wk (by simp [lo]) (by simp [Am.get]) (by simp only [ll, List.all_cons, List.all_nil, Bool.and_true, Bool.and_eq_true, AV.bel]; exact ⟨bi, bj, rfl⟩) (by rw [hZ]; exact subH_app _ _) hb0⟩
        have e2 : w64 ((l : Int) - 1 + 1) = ((l + 1 : Nat) : Int) - 1 := by rw [w64_of (by omega)]; omega
        have nx : ∀ (fr : Fr) (X : AH), (∀ p ∈ ([(0, .c (.p id 0 0)), (3, .c (.p H.length 0 0)), (5, .c (.i ((k : Int) - 1))), (6, .c (.i (((l + 1 : Nat) : Int) - 1)))] : Fr), Am.get fr p.1 = p.2) →
            Wk H.length fr (H ++ .own (mlC n R) :: X) ([(0, .c (.p id 0 0)), (3, .c (.p H.length 0 0)), (5, .c (.i ((k : Int) - 1))), (6, .c (.i (((l + 1 : Nat) : Int) - 1)))], H ++ [.own (mlC n R)]) := by
          intro fr X hf
          exact Wk.wk (by simp) hf (by simp only [ll, List.all_cons, List.all_nil, Bool.and_true, Bool.and_eq_true, AV.bel]; exact ⟨bi, bj, rfl, rfl⟩) (subH_pre H ⟨.inr rfl, trivial⟩) hb0
        have out : ¬ (0 ≤ (k : Int) - 1 ∧ 0 ≤ (l : Int) - 1 ∧ (k : Int) - 1 < 8 ∧ (l : Int) - 1 < 8) → slotV n B ((k : Int) - 1) ((l : Int) - 1) = rq0 := by
          intro ho
          unfold slotV
          rw [if_neg]
          rintro ⟨a1, a2⟩
          simp only [inH, Bool.and_eq_true, decide_eq_true_eq] at a1 a2
          exact ho ⟨a1.1, a2.1, by omega, by omega⟩
        have er : encR rq0 = [.b false, .b false, .b false, .u 0#64, .i 0] := rfl
        by_cases c1 : 0 ≤ (k : Int) - 1
        rotate_left
        · have o := out (fun h => c1 h.1)
          (try simp (config := { maxSteps := 10000000 }) only [go_sem, List.reduceReplicate, BitVec.reduceOfInt, BitVec.reduceToNat, BitVec.reduceToInt, BitVec.reduceEq, BitVec.reduceLT, BitVec.reduceLE, BitVec.reduceAdd, BitVec.reduceSub, BitVec.reduceMul, BitVec.reduceUDiv, BitVec.reduceUMod, BitVec.reduceAnd, BitVec.reduceOr, BitVec.reduceXOr, BitVec.reduceNot, BitVec.reduceNeg, BitVec.reduceHShiftLeft, BitVec.reduceHShiftRight, Nat.reduceAdd, Nat.reduceMul, Nat.reduceSub, Nat.reduceBEq, Nat.reduceEqDiff, Nat.reduceLeDiff, Nat.reduceLT, Int.reduceLE, Int.reduceLT, Int.reduceAdd, Int.reduceSub, Int.reduceMul, Int.reduceNeg, Int.reduceToNat, Int.reduceEq, ↓reduceIte, reduceCtorEq, q, o, er, l10, e2, c1]; repeat (simp (disch := omega) only [w64_d, ipos, ineg, dpos, dneg]; try simp (config := { maxSteps := 10000000 }) only [go_sem, List.reduceReplicate, BitVec.reduceOfInt, BitVec.reduceToNat, BitVec.reduceToInt, BitVec.reduceEq, BitVec.reduceLT, BitVec.reduceLE, BitVec.reduceAdd, BitVec.reduceSub, BitVec.reduceMul, BitVec.reduceUDiv, BitVec.reduceUMod, BitVec.reduceAnd, BitVec.reduceOr, BitVec.reduceXOr, BitVec.reduceNot, BitVec.reduceNeg, BitVec.reduceHShiftLeft, BitVec.reduceHShiftRight, Nat.reduceAdd, Nat.reduceMul, Nat.reduceSub, Nat.reduceBEq, Nat.reduceEqDiff, Nat.reduceLeDiff, Nat.reduceLT, Int.reduceLE, Int.reduceLT, Int.reduceAdd, Int.reduceSub, Int.reduceMul, Int.reduceNeg, Int.reduceToNat, Int.reduceEq, ↓reduceIte, reduceCtorEq, q, o, er, l10, e2, c1]))
          exact ⟨l + 1, by omega, by omega, nx _ _ (by simp [Am.get])⟩
        by_cases c2 : 0 ≤ (l : Int) - 1
        rotate_left
        · have o := out (fun h => c2 h.2.1)
          (try simp (config := { maxSteps := 10000000 }) only [go_sem, List.reduceReplicate, BitVec.reduceOfInt, BitVec.reduceToNat, BitVec.reduceToInt, BitVec.reduceEq, BitVec.reduceLT, BitVec.reduceLE, BitVec.reduceAdd, BitVec.reduceSub, BitVec.reduceMul, BitVec.reduceUDiv, BitVec.reduceUMod, BitVec.reduceAnd, BitVec.reduceOr, BitVec.reduceXOr, BitVec.reduceNot, BitVec.reduceNeg, BitVec.reduceHShiftLeft, BitVec.reduceHShiftRight, Nat.reduceAdd, Nat.reduceMul, Nat.reduceSub, Nat.reduceBEq, Nat.reduceEqDiff, Nat.reduceLeDiff, Nat.reduceLT, Int.reduceLE, Int.reduceLT, Int.reduceAdd, Int.reduceSub, Int.reduceMul, Int.reduceNeg, Int.reduceToNat, Int.reduceEq, ↓reduceIte, reduceCtorEq, q, o, er, l10, e2, c1, c2]; repeat (simp (disch := omega) only [w64_d, ipos, ineg, dpos, dneg]; try simp (config := { maxSteps := 10000000 }) only [go_sem, List.reduceReplicate, BitVec.reduceOfInt, BitVec.reduceToNat, BitVec.reduceToInt, BitVec.reduceEq, BitVec.reduceLT, BitVec.reduceLE, BitVec.reduceAdd, BitVec.reduceSub, BitVec.reduceMul, BitVec.reduceUDiv, BitVec.reduceUMod, BitVec.reduceAnd, BitVec.reduceOr, BitVec.reduceXOr, BitVec.reduceNot, BitVec.reduceNeg, BitVec.reduceHShiftLeft, BitVec.reduceHShiftRight, Nat.reduceAdd, Nat.reduceMul, Nat.reduceSub, Nat.reduceBEq, Nat.reduceEqDiff, Nat.reduceLeDiff, Nat.reduceLT, Int.reduceLE, Int.reduceLT, Int.reduceAdd, Int.reduceSub, Int.reduceMul, Int.reduceNeg, Int.reduceToNat, Int.reduceEq, ↓reduceIte, reduceCtorEq, q, o, er, l10, e2, c1, c2]))
          exact ⟨l + 1, by omega, by omega, nx _ _ (by simp [Am.get])⟩
        by_cases c3 : (k : Int) - 1 < 8
        rotate_left
        · have o := out (fun h => c3 h.2.2.1)
          (try simp (config := { maxSteps := 10000000 }) only [go_sem, List.reduceReplicate, BitVec.reduceOfInt, BitVec.reduceToNat, BitVec.reduceToInt, BitVec.reduceEq, BitVec.reduceLT, BitVec.reduceLE, BitVec.reduceAdd, BitVec.reduceSub, BitVec.reduceMul, BitVec.reduceUDiv, BitVec.reduceUMod, BitVec.reduceAnd, BitVec.reduceOr, BitVec.reduceXOr, BitVec.reduceNot, BitVec.reduceNeg, BitVec.reduceHShiftLeft, BitVec.reduceHShiftRight, Nat.reduceAdd, Nat.reduceMul, Nat.reduceSub, Nat.reduceBEq, Nat.reduceEqDiff, Nat.reduceLeDiff, Nat.reduceLT, Int.reduceLE, Int.reduceLT, Int.reduceAdd, Int.reduceSub, Int.reduceMul, Int.reduceNeg, Int.reduceToNat, Int.reduceEq, ↓reduceIte, reduceCtorEq, q, o, er, l10, e2, c1, c2, c3]; repeat (simp (disch := omega) only [w64_d, ipos, ineg, dpos, dneg]; try simp (config := { maxSteps := 10000000 }) only [go_sem, List.reduceReplicate, BitVec.reduceOfInt, BitVec.reduceToNat, BitVec.reduceToInt, BitVec.reduceEq, BitVec.reduceLT, BitVec.reduceLE, BitVec.reduceAdd, BitVec.reduceSub, BitVec.reduceMul, BitVec.reduceUDiv, BitVec.reduceUMod, BitVec.reduceAnd, BitVec.reduceOr, BitVec.reduceXOr, BitVec.reduceNot, BitVec.reduceNeg, BitVec.reduceHShiftLeft, BitVec.reduceHShiftRight, Nat.reduceAdd, Nat.reduceMul, Nat.reduceSub, Nat.reduceBEq, Nat.reduceEqDiff, Nat.reduceLeDiff, Nat.reduceLT, Int.reduceLE, Int.reduceLT, Int.reduceAdd, Int.reduceSub, Int.reduceMul, Int.reduceNeg, Int.reduceToNat, Int.reduceEq, ↓reduceIte, reduceCtorEq, q, o, er, l10, e2, c1, c2, c3]))
          exact ⟨l + 1, by omega, by omega, nx _ _ (by simp [Am.get])⟩
        by_cases c4 : (l : Int) - 1 < 8
        rotate_left
        · have o := out (fun h => c4 h.2.2.2)
          (try simp (config := { maxSteps := 10000000 }) only [go_sem, List.reduceReplicate, BitVec.reduceOfInt, BitVec.reduceToNat, BitVec.reduceToInt, BitVec.reduceEq, BitVec.reduceLT, BitVec.reduceLE, BitVec.reduceAdd, BitVec.reduceSub, BitVec.reduceMul, BitVec.reduceUDiv, BitVec.reduceUMod, BitVec.reduceAnd, BitVec.reduceOr, BitVec.reduceXOr, BitVec.reduceNot, BitVec.reduceNeg, BitVec.reduceHShiftLeft, BitVec.reduceHShiftRight, Nat.reduceAdd, Nat.reduceMul, Nat.reduceSub, Nat.reduceBEq, Nat.reduceEqDiff, Nat.reduceLeDiff, Nat.reduceLT, Int.reduceLE, Int.reduceLT, Int.reduceAdd, Int.reduceSub, Int.reduceMul, Int.reduceNeg, Int.reduceToNat, Int.reduceEq, ↓reduceIte, reduceCtorEq, q, o, er, l10, e2, c1, c2, c3, c4]; repeat (simp (disch := omega) only [w64_d, ipos, ineg, dpos, dneg]; try simp (config := { maxSteps := 10000000 }) only [go_sem, List.reduceReplicate, BitVec.reduceOfInt, BitVec.reduceToNat, BitVec.reduceToInt, BitVec.reduceEq, BitVec.reduceLT, BitVec.reduceLE, BitVec.reduceAdd, BitVec.reduceSub, BitVec.reduceMul, BitVec.reduceUDiv, BitVec.reduceUMod, BitVec.reduceAnd, BitVec.reduceOr, BitVec.reduceXOr, BitVec.reduceNot, BitVec.reduceNeg, BitVec.reduceHShiftLeft, BitVec.reduceHShiftRight, Nat.reduceAdd, Nat.reduceMul, Nat.reduceSub, Nat.reduceBEq, Nat.reduceEqDiff, Nat.reduceLeDiff, Nat.reduceLT, Int.reduceLE, Int.reduceLT, Int.reduceAdd, Int.reduceSub, Int.reduceMul, Int.reduceNeg, Int.reduceToNat, Int.reduceEq, ↓reduceIte, reduceCtorEq, q, o, er, l10, e2, c1, c2, c3, c4]))
          exact ⟨l + 1, by omega, by omega, nx _ _ (by simp [Am.get])⟩
        obtain ⟨a, ha⟩ := Int.eq_ofNat_of_zero_le c1
        obtain ⟨b, hb⟩ := Int.eq_ofNat_of_zero_le c2
        have a8 : a < 8 := by omega
        have b8 : b < 8 := by omega
        have g1 := slot_rd (n := n) hR a8 b8
        rw [htr a b a8 b8] at g1
        have ng7 : 1 + a * 40 + b * 5 + 5 ≤ 321 := by omega
        rw [ha] at nx
        rw [hb] at e2
        have d1 : (a : Int) < 9 := by omega
        have d2 : (b : Int) < 9 := by omega
        have d3 : (0 : Int) ≤ (a : Int) := by omega
        have d4 : (0 : Int) ≤ (b : Int) := by omega
        have d5 : (a : Int) < 8 := by omega
        have d6 : (b : Int) < 8 := by omega
        simp only [ha, hb]
        generalize hsl : slotV n B a b = sl at g1
        obtain ⟨os, ov, od, oa, oi⟩ := sl
        have es : encR ⟨os, ov, od, oa, oi⟩ = [.b os, .b ov, .b od, .u oa, .i oi] := rfl
        rw [es] at g1
        (try simp (config := { maxSteps := 10000000 }) only [go_sem, List.reduceReplicate, BitVec.reduceOfInt, BitVec.reduceToNat, BitVec.reduceToInt, BitVec.reduceEq, BitVec.reduceLT, BitVec.reduceLE, BitVec.reduceAdd, BitVec.reduceSub, BitVec.reduceMul, BitVec.reduceUDiv, BitVec.reduceUMod, BitVec.reduceAnd, BitVec.reduceOr, BitVec.reduceXOr, BitVec.reduceNot, BitVec.reduceNeg, BitVec.reduceHShiftLeft, BitVec.reduceHShiftRight, Nat.reduceAdd, Nat.reduceMul, Nat.reduceSub, Nat.reduceBEq, Nat.reduceEqDiff, Nat.reduceLeDiff, Nat.reduceLT, Int.reduceLE, Int.reduceLT, Int.reduceAdd, Int.reduceSub, Int.reduceMul, Int.reduceNeg, Int.reduceToNat, Int.reduceEq, ↓reduceIte, reduceCtorEq, q, hsl, es, l0, mo, e2, g1, ng7, d1, d2, d3, d4, d5, d6]; repeat (simp (disch := omega) only [w64_d, ipos, ineg, dpos, dneg]; try simp (config := { maxSteps := 10000000 }) only [go_sem, List.reduceReplicate, BitVec.reduceOfInt, BitVec.reduceToNat, BitVec.reduceToInt, BitVec.reduceEq, BitVec.reduceLT, BitVec.reduceLE, BitVec.reduceAdd, BitVec.reduceSub, BitVec.reduceMul, BitVec.reduceUDiv, BitVec.reduceUMod, BitVec.reduceAnd, BitVec.reduceOr, BitVec.reduceXOr, BitVec.reduceNot, BitVec.reduceNeg, BitVec.reduceHShiftLeft, BitVec.reduceHShiftRight, Nat.reduceAdd, Nat.reduceMul, Nat.reduceSub, Nat.reduceBEq, Nat.reduceEqDiff, Nat.reduceLeDiff, Nat.reduceLT, Int.reduceLE, Int.reduceLT, Int.reduceAdd, Int.reduceSub, Int.reduceMul, Int.reduceNeg, Int.reduceToNat, Int.reduceEq, ↓reduceIte, reduceCtorEq, q, hsl, es, l0, mo, e2, g1, ng7, d1, d2, d3, d4, d5, d6]))
        exact ⟨l + 1, by omega, by omega, nx _ _ (by simp [Am.get])⟩
      · simp at h
    · simp at h
  · simp at h

end
end Go.Proofs.Ythjhkckndnhjpaa
