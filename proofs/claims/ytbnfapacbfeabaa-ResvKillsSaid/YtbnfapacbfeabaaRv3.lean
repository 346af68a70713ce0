/- Layer 13: who has reservations; the reference's table: contracts. -/
import Derived.Test.YtbnfapacbfeabaaRv2
namespace Go.Proofs.Ytbnfapacbfeabaa
open Go.Am
set_option linter.unusedSimpArgs false
set_option linter.unusedVariables false
noncomputable section

theorem tabP_app {H X : AH} {x : Sc} {r : Option (List Sl)} (h : tabP H x = some r) (hb : x.bel H.length = true) : tabP (H ++ X) x = some r := by
  rcases tabP_inv h with ⟨rfl, rfl⟩ | ⟨id, R, rfl, rfl, hl, ho⟩
  · rfl
  · exact tabP_of ((hg_lt' (by simpa [Sc.bel] using hb)).trans ho) hl
def whoN (R : List Sl) (l : BitVec 64) : Nat → List Int
  | 0 => []
  | k + 1 => if hasT R k l = true then whoN R l k ++ [(k : Int)] else whoN R l k
theorem whoN_len {R : List Sl} {l : BitVec 64} : ∀ {k : Nat}, (whoN R l k).length ≤ k
  | 0 => Nat.le_refl _
  | k + 1 => by
    have ih := whoN_len (R := R) (l := l) (k := k)
    simp only [whoN]; split
    · simp; omega
    · omega
def whoO (r : Option (List Sl)) (l : BitVec 64) : List Int := match r with
  | some R => whoN R l 8
  | none => []
def s_vwho (args : List AV) (H : AH) : Option (AV × AH) :=
  match args with
  | [.c x, .c (.u l)] =>
    match tabP H x with
    | some r => some (.c (.sl H.length 0 (whoO r l).length (whoO r l).length), H ++ [.vec 1 ((whoO r l).map gI)])
    | none => none
  | _ => none
theorem s_vwho_eq {H : AH} {x : Sc} {l : BitVec 64} {r : Option (List Sl)} (hR : tabP H x = some r) : s_vwho [.c x, .c (.u l)] H = some (.c (.sl H.length 0 (whoO r l).length (whoO r l).length), H ++ [.vec 1 ((whoO r l).map gI)]) := by simp only [s_vwho, hR]
theorem len_vwho (args : List AV) (H : AH) (v : AV) (H1 : AH) (h : s_vwho args H = some (v, H1)) : H.length ≤ H1.length := by
  unfold s_vwho at h
  repeat' split at h
  all_goals simp at h
  rw [← h.2]; simp
set_option maxRecDepth 100000 in
set_option maxHeartbeats 2000000 in
theorem ok_vwho : FpOk Try.prog 12 s_vwho := by
  refine fp_ok (s := s_vwho) (tab := [(11, .fq s_vhas)]) hmix (TabOk.cons (e := .fq s_vhas) ok_vhas TabOk.nil) Try.func12 rfl Try.results12 Try.ntmps12 (by kernel_rfl) (by kernel_rfl) len_vwho ?_
  intro args H v H1 h hargs hH
  unfold s_vwho at h
  split at h
  · rename_i x l
    split at h
    · rename_i r hR
      simp only [Option.some.injEq, Prod.mk.injEq] at h
      obtain ⟨rfl, rfl⟩ := h
      refine ⟨by simp only [List.length_cons, List.length_nil]; decide, ?_⟩
      have bx : x.bel H.length = true := by simp only [List.all_cons, AV.bel, Bool.and_eq_true] at hargs; exact hargs.1
      obtain ⟨W, B, h0, hS, hW, hB, h8⟩ : ∃ (W : Nat → List Int) (B : Nat → Bool), W 0 = [] ∧ (∀ k, W (k + 1) = if B k = true then W k ++ [(k : Int)] else W k) ∧ (∀ k, (W k).length ≤ k) ∧ (∀ k : Nat, k < 8 → ∀ X, s_vhas [.c x, .c (.i k), .c (.u l)] (H ++ X) = some (.c (.b (B k)))) ∧ whoO r l = W 8 := by
        cases r with
        | none =>
          rcases tabP_inv hR with ⟨rfl, hq⟩ | ⟨id, R', rfl, hq, hl, ho⟩
          · exact ⟨fun _ => [], fun _ => false, rfl, fun _ => rfl, fun _ => Nat.zero_le _, fun _ _ _ => s_vhas_nil, rfl⟩
          · simp at hq
        | some R => exact ⟨whoN R l, fun k => hasT R k l, rfl, fun _ => rfl, fun _ => whoN_len, fun k _ X => s_vhas_eq (tabP_app hR bx), rfl⟩
      rw [h8]
      have bb : ∀ L : List Int, belH (H ++ [.vec 1 (L.map gI)]) = true := fun L => belH_app hH (by simp only [List.mem_singleton, forall_eq]; exact map_bel gI_num _ _)
      have bx2 := Sc.bel_mono bx (show H.length ≤ H.length + 1 by omega)
      (try simp (config := { maxSteps := 10000000 }) only [go_sem, List.reduceReplicate, BitVec.reduceOfInt, BitVec.reduceToNat, BitVec.reduceToInt, BitVec.reduceEq, BitVec.reduceLT, BitVec.reduceLE, BitVec.reduceAdd, BitVec.reduceSub, BitVec.reduceMul, BitVec.reduceUDiv, BitVec.reduceUMod, BitVec.reduceAnd, BitVec.reduceOr, BitVec.reduceXOr, BitVec.reduceNot, BitVec.reduceNeg, BitVec.reduceHShiftLeft, BitVec.reduceHShiftRight, Nat.reduceAdd, Nat.reduceMul, Nat.reduceSub, Nat.reduceBEq, Nat.reduceEqDiff, Nat.reduceLeDiff, Nat.reduceLT, Int.reduceLE, Int.reduceLT, Int.reduceAdd, Int.reduceSub, Int.reduceMul, Int.reduceNeg, Int.reduceToNat, Int.reduceEq, ↓reduceIte, reduceCtorEq]; repeat (simp (disch := omega) only [w64_d, ipos, ineg, dpos, dneg]; try simp (config := { maxSteps := 10000000 }) only [go_sem, List.reduceReplicate, BitVec.reduceOfInt, BitVec.reduceToNat, BitVec.reduceToInt, BitVec.reduceEq, BitVec.reduceLT, BitVec.reduceLE, BitVec.reduceAdd, BitVec.reduceSub, BitVec.reduceMul, BitVec.reduceUDiv, BitVec.reduceUMod, BitVec.reduceAnd, BitVec.reduceOr, BitVec.reduceXOr, BitVec.reduceNot, BitVec.reduceNeg, BitVec.reduceHShiftLeft, BitVec.reduceHShiftRight, Nat.reduceAdd, Nat.reduceMul, Nat.reduceSub, Nat.reduceBEq, Nat.reduceEqDiff, Nat.reduceLeDiff, Nat.reduceLT, Int.reduceLE, Int.reduceLT, Int.reduceAdd, Int.reduceSub, Int.reduceMul, Int.reduceNeg, Int.reduceToNat, Int.reduceEq, ↓reduceIte, reduceCtorEq]))
      refine arun_for 8 (fun k => ([(0, .c x), (1, .c (.u l)), (5, .c (.sl H.length 0 (W k).length (W k).length)), (7, .c (.i k))], H ++ [.vec 1 ((W k).map gI)])) ?_ fun k hk => ?_
      · exact Wk.trans (Wk.nil 5 1 (by decide) rfl (by simp [lo])) (Wk.wk (by simp [lo]) (by simp [Am.get, h0]) (by simp [AV.bel, bx2]; simp [Sc.bel]) (by rw [h0]; exact subH_refl _) (bb _))
      · have wl := hW k
        by_cases hlt : k < 8
        · have e0 : (k : Int) < 8 := by omega
          have e1 : w64 ((k : Int) + 1) = ((k + 1 : Nat) : Int) := by rw [w64_d (by omega) (by omega)]; omega
          have p1 := hB k hlt
          have sk := hS k
          have k5 : ((W k).length + 1) * 8 ≤ 1099511627776 := by omega
          cases hb : B k
          · rw [hb] at p1 sk
            (try simp (config := { maxSteps := 10000000 }) only [go_sem, List.reduceReplicate, BitVec.reduceOfInt, BitVec.reduceToNat, BitVec.reduceToInt, BitVec.reduceEq, BitVec.reduceLT, BitVec.reduceLE, BitVec.reduceAdd, BitVec.reduceSub, BitVec.reduceMul, BitVec.reduceUDiv, BitVec.reduceUMod, BitVec.reduceAnd, BitVec.reduceOr, BitVec.reduceXOr, BitVec.reduceNot, BitVec.reduceNeg, BitVec.reduceHShiftLeft, BitVec.reduceHShiftRight, Nat.reduceAdd, Nat.reduceMul, Nat.reduceSub, Nat.reduceBEq, Nat.reduceEqDiff, Nat.reduceLeDiff, Nat.reduceLT, Int.reduceLE, Int.reduceLT, Int.reduceAdd, Int.reduceSub, Int.reduceMul, Int.reduceNeg, Int.reduceToNat, Int.reduceEq, ↓reduceIte, reduceCtorEq, e0, e1, p1]; repeat (simp (disch := omega) only [w64_d, ipos, ineg, dpos, dneg]; try simp (config := { maxSteps := 10000000 }) only [go_sem, List.reduceReplicate, BitVec.reduceOfInt, BitVec.reduceToNat, BitVec.reduceToInt, BitVec.reduceEq, BitVec.reduceLT, BitVec.reduceLE, BitVec.reduceAdd, BitVec.reduceSub, BitVec.reduceMul, BitVec.reduceUDiv, BitVec.reduceUMod, BitVec.reduceAnd, BitVec.reduceOr, BitVec.reduceXOr, BitVec.reduceNot, BitVec.reduceNeg, BitVec.reduceHShiftLeft, BitVec.reduceHShiftRight, Nat.reduceAdd, Nat.reduceMul, Nat.reduceSub, Nat.reduceBEq, Nat.reduceEqDiff, Nat.reduceLeDiff, Nat.reduceLT, Int.reduceLE, Int.reduceLT, Int.reduceAdd, Int.reduceSub, Int.reduceMul, Int.reduceNeg, Int.reduceToNat, Int.reduceEq, ↓reduceIte, reduceCtorEq, e0, e1, p1]))
            refine ⟨k + 1, by omega, by omega, ?_⟩
            rw [sk, if_neg (by decide)]
            exact Wk.wk (by simp [lo]) (by simp [Am.get]) (by simp [AV.bel, bx2]; simp [Sc.bel]) (subH_refl _) (bb _)
          · rw [hb] at p1 sk
            (try simp (config := { maxSteps := 10000000 }) only [go_sem, List.reduceReplicate, BitVec.reduceOfInt, BitVec.reduceToNat, BitVec.reduceToInt, BitVec.reduceEq, BitVec.reduceLT, BitVec.reduceLE, BitVec.reduceAdd, BitVec.reduceSub, BitVec.reduceMul, BitVec.reduceUDiv, BitVec.reduceUMod, BitVec.reduceAnd, BitVec.reduceOr, BitVec.reduceXOr, BitVec.reduceNot, BitVec.reduceNeg, BitVec.reduceHShiftLeft, BitVec.reduceHShiftRight, Nat.reduceAdd, Nat.reduceMul, Nat.reduceSub, Nat.reduceBEq, Nat.reduceEqDiff, Nat.reduceLeDiff, Nat.reduceLT, Int.reduceLE, Int.reduceLT, Int.reduceAdd, Int.reduceSub, Int.reduceMul, Int.reduceNeg, Int.reduceToNat, Int.reduceEq, ↓reduceIte, reduceCtorEq, e0, e1, p1, k5, List.length_map]; repeat (simp (disch := omega) only [w64_d, ipos, ineg, dpos, dneg]; try simp (config := { maxSteps := 10000000 }) only [go_sem, List.reduceReplicate, BitVec.reduceOfInt, BitVec.reduceToNat, BitVec.reduceToInt, BitVec.reduceEq, BitVec.reduceLT, BitVec.reduceLE, BitVec.reduceAdd, BitVec.reduceSub, BitVec.reduceMul, BitVec.reduceUDiv, BitVec.reduceUMod, BitVec.reduceAnd, BitVec.reduceOr, BitVec.reduceXOr, BitVec.reduceNot, BitVec.reduceNeg, BitVec.reduceHShiftLeft, BitVec.reduceHShiftRight, Nat.reduceAdd, Nat.reduceMul, Nat.reduceSub, Nat.reduceBEq, Nat.reduceEqDiff, Nat.reduceLeDiff, Nat.reduceLT, Int.reduceLE, Int.reduceLT, Int.reduceAdd, Int.reduceSub, Int.reduceMul, Int.reduceNeg, Int.reduceToNat, Int.reduceEq, ↓reduceIte, reduceCtorEq, e0, e1, p1, k5, List.length_map]))
            refine ⟨k + 1, by omega, by omega, ?_⟩
            rw [sk, if_pos rfl]
            exact Wk.wk (by simp [lo]) (by simp [Am.get]) (by simp [AV.bel, bx2]; simp [Sc.bel]) (subH_pre _ ⟨.inr (by simp [gI]), trivial⟩) (bb _)
        · obtain rfl : k = 8 := by omega
          (try simp (config := { maxSteps := 10000000 }) only [go_sem, List.reduceReplicate, BitVec.reduceOfInt, BitVec.reduceToNat, BitVec.reduceToInt, BitVec.reduceEq, BitVec.reduceLT, BitVec.reduceLE, BitVec.reduceAdd, BitVec.reduceSub, BitVec.reduceMul, BitVec.reduceUDiv, BitVec.reduceUMod, BitVec.reduceAnd, BitVec.reduceOr, BitVec.reduceXOr, BitVec.reduceNot, BitVec.reduceNeg, BitVec.reduceHShiftLeft, BitVec.reduceHShiftRight, Nat.reduceAdd, Nat.reduceMul, Nat.reduceSub, Nat.reduceBEq, Nat.reduceEqDiff, Nat.reduceLeDiff, Nat.reduceLT, Int.reduceLE, Int.reduceLT, Int.reduceAdd, Int.reduceSub, Int.reduceMul, Int.reduceNeg, Int.reduceToNat, Int.reduceEq, ↓reduceIte, reduceCtorEq]; repeat (simp (disch := omega) only [w64_d, ipos, ineg, dpos, dneg]; try simp (config := { maxSteps := 10000000 }) only [go_sem, List.reduceReplicate, BitVec.reduceOfInt, BitVec.reduceToNat, BitVec.reduceToInt, BitVec.reduceEq, BitVec.reduceLT, BitVec.reduceLE, BitVec.reduceAdd, BitVec.reduceSub, BitVec.reduceMul, BitVec.reduceUDiv, BitVec.reduceUMod, BitVec.reduceAnd, BitVec.reduceOr, BitVec.reduceXOr, BitVec.reduceNot, BitVec.reduceNeg, BitVec.reduceHShiftLeft, BitVec.reduceHShiftRight, Nat.reduceAdd, Nat.reduceMul, Nat.reduceSub, Nat.reduceBEq, Nat.reduceEqDiff, Nat.reduceLeDiff, Nat.reduceLT, Int.reduceLE, Int.reduceLT, Int.reduceAdd, Int.reduceSub, Int.reduceMul, Int.reduceNeg, Int.reduceToNat, Int.reduceEq, ↓reduceIte, reduceCtorEq]))
          exact fin_fp (by simp [AV.bel, Sc.bel]) (subH_refl _) (bb _) (by simp)
    · simp at h
  · simp at h

/-! ### the reference's table: a value -/
def refC (R : List Sl) : List Sc := R.map (fun x => .b x.is) ++ R.map fun x => .u x.ln
theorem refC_l {R : List Sl} (h : R.length = 8) : (refC R).length = 16 := by simp [refC, h]
theorem refC_pf {R : List Sl} : (refC R).all Sc.pf = true := by
  unfold refC; rw [List.all_append, List.all_map, List.all_map, Bool.and_eq_true]
  exact ⟨List.all_eq_true.2 fun _ _ => rfl, List.all_eq_true.2 fun _ _ => rfl⟩
theorem refC_bel {R : List Sl} {n : Nat} : (refC R).all (Sc.bel n) = true := by
  unfold refC; rw [List.all_append, List.all_map, List.all_map, Bool.and_eq_true]
  exact ⟨List.all_eq_true.2 fun _ _ => rfl, List.all_eq_true.2 fun _ _ => rfl⟩
theorem refC_one {R : List Sl} : (refC R).all Sc.one = true := by
  unfold refC; rw [List.all_append, List.all_map, List.all_map, Bool.and_eq_true]
  exact ⟨List.all_eq_true.2 fun _ _ => rfl, List.all_eq_true.2 fun _ _ => rfl⟩
theorem refC_cell {R : List Sl} {k : Nat} {x : Sl} (hR : R.length = 8) (h : R[k]? = some x) : (refC R).getD k .any = .b x.is ∧ (refC R).getD (8 + k) .any = .u x.ln := by
  have hk : k < 8 := by
    rcases Nat.lt_or_ge k 8 with h1 | h1
    · exact h1
    · rw [List.getElem?_eq_none (by omega)] at h; simp at h
  unfold refC
  constructor
  · rw [List.getD_eq_getElem?_getD, List.getElem?_append_left (by simp; omega), List.getElem?_map, h]; rfl
  · rw [List.getD_eq_getElem?_getD, List.getElem?_append_right (by simp; omega), List.length_map, hR, show 8 + k - 8 = k by omega, List.getElem?_map, h]; rfl
theorem refC_set1 {R : List Sl} {k : Nat} {q : Bool} (hR : R.length = 8) (hk : k < 8) : wr (refC R) k [.b q] = (R.map (fun x => Sc.b x.is)).set k (.b q) ++ R.map fun x => Sc.u x.ln := by
  rw [wr_one (by rw [refC_l hR]; omega)]
  unfold refC
  rw [List.set_append_left _ _ (by simp; omega)]
theorem refC_set2 {R : List Sl} {k : Nat} {q : Bool} {l : BitVec 64} (hR : R.length = 8) (hk : k < 8) : wr ((R.map (fun x => Sc.b x.is)).set k (.b q) ++ R.map fun x => Sc.u x.ln) (8 + k) [.u l] = refC (R.set k ⟨q, l⟩) := by
  rw [wr_one (by simp; omega), List.set_append_right _ _ (by simp; omega)]
  simp only [List.length_set, List.length_map, hR, show 8 + k - 8 = k by omega]
  unfold refC
  rw [List.map_set, List.map_set]
theorem refC_inj {R S : List Sl} (hR : R.length = 8) (hS : S.length = 8) (h : refC R = refC S) : R = S := by
  apply List.ext_getElem (by omega)
  intro i h1 h2
  have a := refC_cell hR (List.getElem?_eq_getElem h1)
  have b := refC_cell hS (List.getElem?_eq_getElem h2)
  rw [h] at a
  have e1 := a.1.symm.trans b.1
  have e2 := a.2.symm.trans b.2
  simp only [Sc.b.injEq] at e1
  simp only [Sc.u.injEq] at e2
  cases hx : R[i]; cases hy : S[i]
  rw [hx, hy] at e1 e2
  simp only at e1 e2
  rw [e1, e2]
def isRf (l : List Sc) : Prop := ∃ R : List Sl, R.length = 8 ∧ l = refC R
instance (l : List Sc) : Decidable (isRf l) := Classical.propDecidable _
def rfT (l : List Sc) : List Sl := if h : isRf l then Classical.choose h else []
theorem rfT_of {R : List Sl} (h : R.length = 8) : rfT (refC R) = R := by
  have hx : isRf (refC R) := ⟨R, h, rfl⟩
  unfold rfT; rw [dif_pos hx]
  exact (refC_inj h (Classical.choose_spec hx).1 (Classical.choose_spec hx).2).symm
theorem isRf_of {R : List Sl} (h : R.length = 8) : isRf (refC R) := ⟨R, h, rfl⟩
def s_vrset (args : List AV) : Option AV :=
  match args with
  | [.g l, .c (.i h), .c (.u x)] => if isRf l then some (.t [.g (refC (setT (rfT l) h ⟨true, x⟩)), .c (.b (in8 h))]) else none
  | _ => none
theorem s_vrset_eq {l h x} : s_vrset [.g l, .c (.i h), .c (.u x)] = if isRf l then some (.t [.g (refC (setT (rfT l) h ⟨true, x⟩)), .c (.b (in8 h))]) else none := rfl
set_option maxRecDepth 100000 in
set_option maxHeartbeats 2000000 in
theorem ok_vrset : PuOk Try.prog 15 s_vrset := by
  refine pu_ok (tab := []) hmix TabOk.nil Try.func15 rfl Try.results15 Try.ntmps15 (by kernel_rfl) (by kernel_rfl) ?_
  intro args v h
  unfold s_vrset at h
  split at h
  · rename_i l h x
    split at h
    · rename_i hc
      simp only [Option.some.injEq] at h; subst h
      obtain ⟨R, hR, rfl⟩ := hc
      have pl := @refC_pf R
      have p2 := @refC_pf (setT R h ⟨true, x⟩)
      rw [rfT_of hR]
      refine ⟨by simp only [List.length_cons, List.length_nil]; decide, by first | rfl | simp only [List.all_cons, List.all_nil, AV.pf, Sc.pf, Bool.and_true, *], by first | rfl | simp only [List.all_cons, List.all_nil, AV.pf, Sc.pf, Bool.and_true, *], ?_⟩
      have lR := refC_l hR
      have tk : (refC R).take 16 = refC R := by rw [← lR, List.take_length]
      have o1 := @refC_one R
      cases hi : in8 h
      · have e : setT R h ⟨true, x⟩ = R := by unfold setT; rw [if_neg (by rw [hi]; decide)]
        simp only [in8, Bool.and_eq_false_iff, decide_eq_false_iff_not] at hi
        rw [e]
        by_cases h1 : h < 0
        · (try simp (config := { maxSteps := 10000000 }) only [go_sem, List.reduceReplicate, BitVec.reduceOfInt, BitVec.reduceToNat, BitVec.reduceToInt, BitVec.reduceEq, BitVec.reduceLT, BitVec.reduceLE, BitVec.reduceAdd, BitVec.reduceSub, BitVec.reduceMul, BitVec.reduceUDiv, BitVec.reduceUMod, BitVec.reduceAnd, BitVec.reduceOr, BitVec.reduceXOr, BitVec.reduceNot, BitVec.reduceNeg, BitVec.reduceHShiftLeft, BitVec.reduceHShiftRight, Nat.reduceAdd, Nat.reduceMul, Nat.reduceSub, Nat.reduceBEq, Nat.reduceEqDiff, Nat.reduceLeDiff, Nat.reduceLT, Int.reduceLE, Int.reduceLT, Int.reduceAdd, Int.reduceSub, Int.reduceMul, Int.reduceNeg, Int.reduceToNat, Int.reduceEq, ↓reduceIte, reduceCtorEq, h1, lR, tk, o1]; repeat (simp (disch := omega) only [w64_d, ipos, ineg, dpos, dneg]; try simp (config := { maxSteps := 10000000 }) only [go_sem, List.reduceReplicate, BitVec.reduceOfInt, BitVec.reduceToNat, BitVec.reduceToInt, BitVec.reduceEq, BitVec.reduceLT, BitVec.reduceLE, BitVec.reduceAdd, BitVec.reduceSub, BitVec.reduceMul, BitVec.reduceUDiv, BitVec.reduceUMod, BitVec.reduceAnd, BitVec.reduceOr, BitVec.reduceXOr, BitVec.reduceNot, BitVec.reduceNeg, BitVec.reduceHShiftLeft, BitVec.reduceHShiftRight, Nat.reduceAdd, Nat.reduceMul, Nat.reduceSub, Nat.reduceBEq, Nat.reduceEqDiff, Nat.reduceLeDiff, Nat.reduceLT, Int.reduceLE, Int.reduceLT, Int.reduceAdd, Int.reduceSub, Int.reduceMul, Int.reduceNeg, Int.reduceToNat, Int.reduceEq, ↓reduceIte, reduceCtorEq, h1, lR, tk, o1]))
          done
        · have h2 : 7 < h := by omega
          (try simp (config := { maxSteps := 10000000 }) only [go_sem, List.reduceReplicate, BitVec.reduceOfInt, BitVec.reduceToNat, BitVec.reduceToInt, BitVec.reduceEq, BitVec.reduceLT, BitVec.reduceLE, BitVec.reduceAdd, BitVec.reduceSub, BitVec.reduceMul, BitVec.reduceUDiv, BitVec.reduceUMod, BitVec.reduceAnd, BitVec.reduceOr, BitVec.reduceXOr, BitVec.reduceNot, BitVec.reduceNeg, BitVec.reduceHShiftLeft, BitVec.reduceHShiftRight, Nat.reduceAdd, Nat.reduceMul, Nat.reduceSub, Nat.reduceBEq, Nat.reduceEqDiff, Nat.reduceLeDiff, Nat.reduceLT, Int.reduceLE, Int.reduceLT, Int.reduceAdd, Int.reduceSub, Int.reduceMul, Int.reduceNeg, Int.reduceToNat, Int.reduceEq, ↓reduceIte, reduceCtorEq, h1, h2, lR, tk, o1]; repeat (simp (disch := omega) only [w64_d, ipos, ineg, dpos, dneg]; try simp (config := { maxSteps := 10000000 }) only [go_sem, List.reduceReplicate, BitVec.reduceOfInt, BitVec.reduceToNat, BitVec.reduceToInt, BitVec.reduceEq, BitVec.reduceLT, BitVec.reduceLE, BitVec.reduceAdd, BitVec.reduceSub, BitVec.reduceMul, BitVec.reduceUDiv, BitVec.reduceUMod, BitVec.reduceAnd, BitVec.reduceOr, BitVec.reduceXOr, BitVec.reduceNot, BitVec.reduceNeg, BitVec.reduceHShiftLeft, BitVec.reduceHShiftRight, Nat.reduceAdd, Nat.reduceMul, Nat.reduceSub, Nat.reduceBEq, Nat.reduceEqDiff, Nat.reduceLeDiff, Nat.reduceLT, Int.reduceLE, Int.reduceLT, Int.reduceAdd, Int.reduceSub, Int.reduceMul, Int.reduceNeg, Int.reduceToNat, Int.reduceEq, ↓reduceIte, reduceCtorEq, h1, h2, lR, tk, o1]))
          done
      · obtain ⟨k, rfl, hk⟩ := in8_nat hi
        have e : setT R k ⟨true, x⟩ = R.set k ⟨true, x⟩ := by unfold setT; rw [if_pos hi]; rfl
        have w1 := refC_set1 (q := true) hR hk
        have w2 := refC_set2 (q := true) (l := x) hR hk
        have l2 : ((R.map (fun x => Sc.b x.is)).set k (.b true) ++ R.map fun x => Sc.u x.ln).length = 16 := by simp [hR]
        have l3 := refC_l (R := R.set k ⟨true, x⟩) (by simp [hR])
        have tk3 : (refC (R.set k ⟨true, x⟩)).take 16 = refC (R.set k ⟨true, x⟩) := by rw [← l3, List.take_length]
        have o3 := @refC_one (R.set k ⟨true, x⟩)
        have h1 : ¬ (k : Int) < 0 := by omega
        have h2 : ¬ (7 : Int) < k := by omega
        rw [e]
        (try simp (config := { maxSteps := 10000000 }) only [go_sem, List.reduceReplicate, BitVec.reduceOfInt, BitVec.reduceToNat, BitVec.reduceToInt, BitVec.reduceEq, BitVec.reduceLT, BitVec.reduceLE, BitVec.reduceAdd, BitVec.reduceSub, BitVec.reduceMul, BitVec.reduceUDiv, BitVec.reduceUMod, BitVec.reduceAnd, BitVec.reduceOr, BitVec.reduceXOr, BitVec.reduceNot, BitVec.reduceNeg, BitVec.reduceHShiftLeft, BitVec.reduceHShiftRight, Nat.reduceAdd, Nat.reduceMul, Nat.reduceSub, Nat.reduceBEq, Nat.reduceEqDiff, Nat.reduceLeDiff, Nat.reduceLT, Int.reduceLE, Int.reduceLT, Int.reduceAdd, Int.reduceSub, Int.reduceMul, Int.reduceNeg, Int.reduceToNat, Int.reduceEq, ↓reduceIte, reduceCtorEq, h1, h2, lR, w1, w2, l2, l3, tk3, o3, Int.toNat_natCast]; repeat (simp (disch := omega) only [w64_d, ipos, ineg, dpos, dneg]; try simp (config := { maxSteps := 10000000 }) only [go_sem, List.reduceReplicate, BitVec.reduceOfInt, BitVec.reduceToNat, BitVec.reduceToInt, BitVec.reduceEq, BitVec.reduceLT, BitVec.reduceLE, BitVec.reduceAdd, BitVec.reduceSub, BitVec.reduceMul, BitVec.reduceUDiv, BitVec.reduceUMod, BitVec.reduceAnd, BitVec.reduceOr, BitVec.reduceXOr, BitVec.reduceNot, BitVec.reduceNeg, BitVec.reduceHShiftLeft, BitVec.reduceHShiftRight, Nat.reduceAdd, Nat.reduceMul, Nat.reduceSub, Nat.reduceBEq, Nat.reduceEqDiff, Nat.reduceLeDiff, Nat.reduceLT, Int.reduceLE, Int.reduceLT, Int.reduceAdd, Int.reduceSub, Int.reduceMul, Int.reduceNeg, Int.reduceToNat, Int.reduceEq, ↓reduceIte, reduceCtorEq, h1, h2, lR, w1, w2, l2, l3, tk3, o3, Int.toNat_natCast]))
        done
    · simp at h
  · simp at h
end
end Go.Proofs.Ytbnfapacbfeabaa
