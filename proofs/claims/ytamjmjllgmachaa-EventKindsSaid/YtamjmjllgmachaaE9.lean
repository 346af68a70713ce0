/- Layer 31: the lines of an ask: contracts. -/
import Derived.Test.YtamjmjllgmachaaSby
import Derived.Test.YtamjmjllgmachaaSoU
import Derived.Test.YtamjmjllgmachaaE3
namespace Go.Proofs.Ytamjmjllgmachaa
open Go.Am
set_option linter.unusedSimpArgs false
set_option linter.unusedVariables false
noncomputable section

theorem ask_of {l : List Sc} (h : L2 FitK l ksAsk) : ∃ (k : Int) (a b : BitVec 64) (c s : Int) (r : List Sc), l = .i k :: .u a :: .u b :: .i c :: .i s :: r ∧ r.length = 14 ∧ r.all Sc.pf = true := by
  obtain ⟨x1, r1, rfl, k1, h⟩ := fit_cons h
  obtain ⟨x2, r2, rfl, k2, h⟩ := fit_cons h
  obtain ⟨x3, r3, rfl, k3, h⟩ := fit_cons h
  obtain ⟨x4, r4, rfl, k4, h⟩ := fit_cons h
  obtain ⟨x5, r5, rfl, k5, h5⟩ := fit_cons h
  obtain ⟨k, rfl, _⟩ := fk_i k1
  obtain ⟨a, rfl⟩ := fk_u k2
  obtain ⟨b, rfl⟩ := fk_u k3
  obtain ⟨c, rfl, _⟩ := fk_i k4
  obtain ⟨s, rfl, _⟩ := fk_i k5
  exact ⟨k, a, b, c, s, r5, rfl, L2.length h5, (fit_all h5).2.1⟩
def s_saccess (args : List AV) : Option AV :=
  match args with
  | [.g (.i k :: .u a :: .u b :: .i c :: .i s :: r)] => if r.length = 14 ∧ r.all Sc.pf = true then some (.g [.u a, .u b, .i c, .i s]) else none
  | _ => none
theorem s_saccess_eq {k a b c s r} : s_saccess [.g (.i k :: .u a :: .u b :: .i c :: .i s :: r)] = if r.length = 14 ∧ r.all Sc.pf = true then some (.g [.u a, .u b, .i c, .i s]) else none := rfl
set_option maxRecDepth 100000 in
set_option maxHeartbeats 2000000 in
theorem ok_saccess : PuOk Try.prog 30 s_saccess := by
  refine pu_ok (tab := []) hmix TabOk.nil Try.func30 rfl Try.results30 Try.ntmps30 (by kernel_rfl) (by kernel_rfl) ?_
  intro args v h
  unfold s_saccess at h
  split at h
  · rename_i k a b c s r
    split at h
    · rename_i hc
      simp only [Option.some.injEq] at h; subst h
      have pr := hc.2
      refine ⟨by simp only [List.length_cons, List.length_nil]; decide, by first | rfl | simp only [List.all_cons, List.all_nil, AV.pf, Sc.pf, Bool.and_true, *], by first | rfl | simp only [List.all_cons, List.all_nil, AV.pf, Sc.pf, Bool.and_true, *], ?_⟩
      (try simp (config := { maxSteps := 10000000 }) only [go_sem, List.reduceReplicate, BitVec.reduceOfInt, BitVec.reduceToNat, BitVec.reduceToInt, BitVec.reduceEq, BitVec.reduceLT, BitVec.reduceLE, BitVec.reduceAdd, BitVec.reduceSub, BitVec.reduceMul, BitVec.reduceUDiv, BitVec.reduceUMod, BitVec.reduceAnd, BitVec.reduceOr, BitVec.reduceXOr, BitVec.reduceNot, BitVec.reduceNeg, BitVec.reduceHShiftLeft, BitVec.reduceHShiftRight, Nat.reduceAdd, Nat.reduceMul, Nat.reduceSub, Nat.reduceBEq, Nat.reduceEqDiff, Nat.reduceLeDiff, Nat.reduceLT, Int.reduceLE, Int.reduceLT, Int.reduceAdd, Int.reduceSub, Int.reduceMul, Int.reduceNeg, Int.reduceToNat, Int.reduceEq, ↓reduceIte, reduceCtorEq, hc.1]; repeat (simp (disch := omega) only [w64_d, ipos, ineg, dpos, dneg]; try simp (config := { maxSteps := 10000000 }) only [go_sem, List.reduceReplicate, BitVec.reduceOfInt, BitVec.reduceToNat, BitVec.reduceToInt, BitVec.reduceEq, BitVec.reduceLT, BitVec.reduceLE, BitVec.reduceAdd, BitVec.reduceSub, BitVec.reduceMul, BitVec.reduceUDiv, BitVec.reduceUMod, BitVec.reduceAnd, BitVec.reduceOr, BitVec.reduceXOr, BitVec.reduceNot, BitVec.reduceNeg, BitVec.reduceHShiftLeft, BitVec.reduceHShiftRight, Nat.reduceAdd, Nat.reduceMul, Nat.reduceSub, Nat.reduceBEq, Nat.reduceEqDiff, Nat.reduceLeDiff, Nat.reduceLT, Int.reduceLE, Int.reduceLT, Int.reduceAdd, Int.reduceSub, Int.reduceMul, Int.reduceNeg, Int.reduceToNat, Int.reduceEq, ↓reduceIte, reduceCtorEq, hc.1]))
    · simp at h
  · simp at h
def s_r14access (args : List AV) : Option AV :=
  match args with
  | [.g (.i k :: .u a :: .u b :: .i c :: .i s :: r)] => if r.length = 14 ∧ r.all Sc.pf = true then some (.g [.u a, .u b, .i c, .i s]) else none
  | _ => none
theorem s_r14access_eq {k a b c s r} : s_r14access [.g (.i k :: .u a :: .u b :: .i c :: .i s :: r)] = if r.length = 14 ∧ r.all Sc.pf = true then some (.g [.u a, .u b, .i c, .i s]) else none := rfl
set_option maxRecDepth 100000 in
set_option maxHeartbeats 2000000 in
theorem ok_r14access : PuOk Try.prog 34 s_r14access := by
  refine pu_ok (tab := []) hmix TabOk.nil Try.func34 rfl Try.results34 Try.ntmps34 (by kernel_rfl) (by kernel_rfl) ?_
  intro args v h
  unfold s_r14access at h
  split at h
  · rename_i k a b c s r
    split at h
    · rename_i hc
      simp only [Option.some.injEq] at h; subst h
      have pr := hc.2
      refine ⟨by simp only [List.length_cons, List.length_nil]; decide, by first | rfl | simp only [List.all_cons, List.all_nil, AV.pf, Sc.pf, Bool.and_true, *], by first | rfl | simp only [List.all_cons, List.all_nil, AV.pf, Sc.pf, Bool.and_true, *], ?_⟩
      (try simp (config := { maxSteps := 10000000 }) only [go_sem, List.reduceReplicate, BitVec.reduceOfInt, BitVec.reduceToNat, BitVec.reduceToInt, BitVec.reduceEq, BitVec.reduceLT, BitVec.reduceLE, BitVec.reduceAdd, BitVec.reduceSub, BitVec.reduceMul, BitVec.reduceUDiv, BitVec.reduceUMod, BitVec.reduceAnd, BitVec.reduceOr, BitVec.reduceXOr, BitVec.reduceNot, BitVec.reduceNeg, BitVec.reduceHShiftLeft, BitVec.reduceHShiftRight, Nat.reduceAdd, Nat.reduceMul, Nat.reduceSub, Nat.reduceBEq, Nat.reduceEqDiff, Nat.reduceLeDiff, Nat.reduceLT, Int.reduceLE, Int.reduceLT, Int.reduceAdd, Int.reduceSub, Int.reduceMul, Int.reduceNeg, Int.reduceToNat, Int.reduceEq, ↓reduceIte, reduceCtorEq, hc.1]; repeat (simp (disch := omega) only [w64_d, ipos, ineg, dpos, dneg]; try simp (config := { maxSteps := 10000000 }) only [go_sem, List.reduceReplicate, BitVec.reduceOfInt, BitVec.reduceToNat, BitVec.reduceToInt, BitVec.reduceEq, BitVec.reduceLT, BitVec.reduceLE, BitVec.reduceAdd, BitVec.reduceSub, BitVec.reduceMul, BitVec.reduceUDiv, BitVec.reduceUMod, BitVec.reduceAnd, BitVec.reduceOr, BitVec.reduceXOr, BitVec.reduceNot, BitVec.reduceNeg, BitVec.reduceHShiftLeft, BitVec.reduceHShiftRight, Nat.reduceAdd, Nat.reduceMul, Nat.reduceSub, Nat.reduceBEq, Nat.reduceEqDiff, Nat.reduceLeDiff, Nat.reduceLT, Int.reduceLE, Int.reduceLT, Int.reduceAdd, Int.reduceSub, Int.reduceMul, Int.reduceNeg, Int.reduceToNat, Int.reduceEq, ↓reduceIte, reduceCtorEq, hc.1]))
    · simp at h
  · simp at h

def linL (a b : BitVec 64) (c s : Int) : List (BitVec 64) := (accP a b c s).map fun p => p.a / 64#64
theorem linL_len {a b : BitVec 64} {c s : Int} : (linL a b c s).length = (accP a b c s).length := by simp [linL]
theorem accP_le {a b : BitVec 64} {c s : Int} : (accP a b c s).length ≤ 4 := by
  cases h : smB c s
  · unfold accP; rw [if_neg (by simp [h])]; simp
  · exact (good_acc h).2.2
def isL (k c s : Int) : Bool := decide (groupI k = 1) && smB c s
def isR (r : List Sc) : Prop := r.length = 14 ∧ r.all Sc.pf = true
instance (r : List Sc) : Decidable (isR r) := Classical.propDecidable _
def s_elines (args : List AV) (H : AH) : Option (AV × AH) :=
  match args with
  | [.g (.i k :: .u a :: .u b :: .i c :: .i s :: r)] =>
    if isR r then
      if isL k c s = true then some (.c (.sl H.length 0 (linL a b c s).length (ddp (srt ltU (linL a b c s))).length), H ++ [.vec 1 (cmpCU (srt ltU (linL a b c s)))])
      else some (.c .nils, H)
    else none
  | _ => none
theorem s_elines_eq {k : Int} {a b : BitVec 64} {c s : Int} {r : List Sc} {H : AH} (h : isR r) : s_elines [.g (.i k :: .u a :: .u b :: .i c :: .i s :: r)] H = if isL k c s = true then some (.c (.sl H.length 0 (linL a b c s).length (ddp (srt ltU (linL a b c s))).length), H ++ [.vec 1 (cmpCU (srt ltU (linL a b c s)))]) else some (.c .nils, H) := by simp only [s_elines, h, if_true]
theorem len_elines (args : List AV) (H : AH) (v : AV) (H1 : AH) (h : s_elines args H = some (v, H1)) : H.length ≤ H1.length := by
  unfold s_elines at h
  repeat' split at h
  all_goals simp at h
  all_goals rw [← h.2]
  all_goals simp
theorem cmpCU_bel {A : List (BitVec 64)} {n : Nat} : (cmpCU A).all (Sc.bel n) = true := by
  unfold cmpCU
  rw [List.all_append, Bool.and_eq_true]; exact ⟨map_bel gU_num _ _, by rw [List.all_replicate]; split <;> rfl⟩
set_option maxHeartbeats 8000000 in
set_option maxRecDepth 100000 in
set_option maxHeartbeats 2000000 in
theorem ok_elines : FpOk Try.prog 21 s_elines := by
  refine fp_ok (s := s_elines) (tab := [(19, .pu s_egroup), (30, .pu s_saccess), (29, .fp s_pieces), (31, .pu s_sline), (32, .fp s_sortU), (33, .fp s_cmpU)]) hmix (TabOk.cons (e := .pu s_egroup) ok_egroup (TabOk.cons (e := .pu s_saccess) ok_saccess (TabOk.cons (e := .fp s_pieces) ok_pieces (TabOk.cons (e := .pu s_sline) ok_sline (TabOk.cons (e := .fp s_sortU) ok_sortU (TabOk.cons (e := .fp s_cmpU) ok_cmpU TabOk.nil)))))) Try.func21 rfl Try.results21 Try.ntmps21 (by kernel_rfl) (by kernel_rfl) len_elines ?_
  intro args H v H1 h hargs hH
  unfold s_elines at h
  split at h
  · rename_i kk a b c s r
    split at h
    · rename_i hr
      obtain ⟨lr, pr⟩ := hr
      have br : ∀ n, r.all (Sc.bel n) = true := fun n => pf_bel n pr
      have rt : r.take 14 = r := List.take_of_length_le (by omega)
      by_cases hg : groupI kk = 1
      · cases hm : smB c s
        · have hL : isL kk c s = false := by simp [isL, hm]
          rw [hL] at h
          simp only [Bool.false_eq_true, if_false, Option.some.injEq, Prod.mk.injEq] at h
          obtain ⟨rfl, rfl⟩ := h
          refine ⟨by simp only [List.length_cons, List.length_nil]; decide, ?_⟩
          have v0 : ∀ H, vecD dcU H .nils = some [] := fun _ => rfl
          have p1 := fun H => s_sortU_eq (v0 H) (by decide)
          have p2 := fun H => s_cmpU_eq (v0 H) (by decide)
          have e2 : ∀ H, cmpU H .nils [] = (.nils, H) := fun _ => rfl
          have e3 : ∀ H cs, putV H .nils cs = H := fun _ _ => rfl
          (try simp (config := { maxSteps := 10000000 }) only [go_sem, List.reduceReplicate, BitVec.reduceOfInt, BitVec.reduceToNat, BitVec.reduceToInt, BitVec.reduceEq, BitVec.reduceLT, BitVec.reduceLE, BitVec.reduceAdd, BitVec.reduceSub, BitVec.reduceMul, BitVec.reduceUDiv, BitVec.reduceUMod, BitVec.reduceAnd, BitVec.reduceOr, BitVec.reduceXOr, BitVec.reduceNot, BitVec.reduceNeg, BitVec.reduceHShiftLeft, BitVec.reduceHShiftRight, Nat.reduceAdd, Nat.reduceMul, Nat.reduceSub, Nat.reduceBEq, Nat.reduceEqDiff, Nat.reduceLeDiff, Nat.reduceLT, Int.reduceLE, Int.reduceLT, Int.reduceAdd, Int.reduceSub, Int.reduceMul, Int.reduceNeg, Int.reduceToNat, Int.reduceEq, ↓reduceIte, reduceCtorEq, s_egroup_eq, s_saccess_eq, s_pieces_eq, s_sline_eq, s_sortU_eq, s_cmpU_eq, hm, hg, lr, pr, rt]; repeat (simp (disch := omega) only [w64_d, ipos, ineg, dpos, dneg]; try simp (config := { maxSteps := 10000000 }) only [go_sem, List.reduceReplicate, BitVec.reduceOfInt, BitVec.reduceToNat, BitVec.reduceToInt, BitVec.reduceEq, BitVec.reduceLT, BitVec.reduceLE, BitVec.reduceAdd, BitVec.reduceSub, BitVec.reduceMul, BitVec.reduceUDiv, BitVec.reduceUMod, BitVec.reduceAnd, BitVec.reduceOr, BitVec.reduceXOr, BitVec.reduceNot, BitVec.reduceNeg, BitVec.reduceHShiftLeft, BitVec.reduceHShiftRight, Nat.reduceAdd, Nat.reduceMul, Nat.reduceSub, Nat.reduceBEq, Nat.reduceEqDiff, Nat.reduceLeDiff, Nat.reduceLT, Int.reduceLE, Int.reduceLT, Int.reduceAdd, Int.reduceSub, Int.reduceMul, Int.reduceNeg, Int.reduceToNat, Int.reduceEq, ↓reduceIte, reduceCtorEq, s_egroup_eq, s_saccess_eq, s_pieces_eq, s_sline_eq, s_sortU_eq, s_cmpU_eq, hm, hg, lr, pr, rt]))
          refine arun_for 0 (fun _ => ([(3, .c .nils), (13, .c (.i 0)), (14, .c (.i 0))], H)) ?_ fun j hj => ?_
          · exact Wk.wk (Nat.le_refl _) (by simp [Am.get]) (by rfl) (subH_app _ _) hH
          · (try simp (config := { maxSteps := 10000000 }) only [go_sem, List.reduceReplicate, BitVec.reduceOfInt, BitVec.reduceToNat, BitVec.reduceToInt, BitVec.reduceEq, BitVec.reduceLT, BitVec.reduceLE, BitVec.reduceAdd, BitVec.reduceSub, BitVec.reduceMul, BitVec.reduceUDiv, BitVec.reduceUMod, BitVec.reduceAnd, BitVec.reduceOr, BitVec.reduceXOr, BitVec.reduceNot, BitVec.reduceNeg, BitVec.reduceHShiftLeft, BitVec.reduceHShiftRight, Nat.reduceAdd, Nat.reduceMul, Nat.reduceSub, Nat.reduceBEq, Nat.reduceEqDiff, Nat.reduceLeDiff, Nat.reduceLT, Int.reduceLE, Int.reduceLT, Int.reduceAdd, Int.reduceSub, Int.reduceMul, Int.reduceNeg, Int.reduceToNat, Int.reduceEq, ↓reduceIte, reduceCtorEq, p1, p2, e2, e3]; repeat (simp (disch := omega) only [w64_d, ipos, ineg, dpos, dneg]; try simp (config := { maxSteps := 10000000 }) only [go_sem, List.reduceReplicate, BitVec.reduceOfInt, BitVec.reduceToNat, BitVec.reduceToInt, BitVec.reduceEq, BitVec.reduceLT, BitVec.reduceLE, BitVec.reduceAdd, BitVec.reduceSub, BitVec.reduceMul, BitVec.reduceUDiv, BitVec.reduceUMod, BitVec.reduceAnd, BitVec.reduceOr, BitVec.reduceXOr, BitVec.reduceNot, BitVec.reduceNeg, BitVec.reduceHShiftLeft, BitVec.reduceHShiftRight, Nat.reduceAdd, Nat.reduceMul, Nat.reduceSub, Nat.reduceBEq, Nat.reduceEqDiff, Nat.reduceLeDiff, Nat.reduceLT, Int.reduceLE, Int.reduceLT, Int.reduceAdd, Int.reduceSub, Int.reduceMul, Int.reduceNeg, Int.reduceToNat, Int.reduceEq, ↓reduceIte, reduceCtorEq, p1, p2, e2, e3]))
            exact fin_fp rfl (subH_refl _) hH (Nat.le_refl _)
        · have hL : isL kk c s = true := by simp [isL, hm, hg]
          rw [hL] at h
          simp only [if_true, Option.some.injEq, Prod.mk.injEq] at h
          obtain ⟨rfl, rfl⟩ := h
          refine ⟨by simp only [List.length_cons, List.length_nil]; decide, ?_⟩
          have l4 := @accP_le a b c s
          have sl := @linL_len a b c s
          have eL := accL_P a b c s
          have eN := accN_P a b c s
          have sg : ∀ (k : Nat) (p : Pc), (accP a b c s)[k]? = some p → (linL a b c s)[k]? = some (p.a / 64#64) := fun k p h => by simp [linL, h]
          generalize linL a b c s = A at *
          generalize accP a b c s = l at *
          (try simp (config := { maxSteps := 10000000 }) only [go_sem, List.reduceReplicate, BitVec.reduceOfInt, BitVec.reduceToNat, BitVec.reduceToInt, BitVec.reduceEq, BitVec.reduceLT, BitVec.reduceLE, BitVec.reduceAdd, BitVec.reduceSub, BitVec.reduceMul, BitVec.reduceUDiv, BitVec.reduceUMod, BitVec.reduceAnd, BitVec.reduceOr, BitVec.reduceXOr, BitVec.reduceNot, BitVec.reduceNeg, BitVec.reduceHShiftLeft, BitVec.reduceHShiftRight, Nat.reduceAdd, Nat.reduceMul, Nat.reduceSub, Nat.reduceBEq, Nat.reduceEqDiff, Nat.reduceLeDiff, Nat.reduceLT, Int.reduceLE, Int.reduceLT, Int.reduceAdd, Int.reduceSub, Int.reduceMul, Int.reduceNeg, Int.reduceToNat, Int.reduceEq, ↓reduceIte, reduceCtorEq, s_egroup_eq, s_saccess_eq, s_pieces_eq, s_sline_eq, s_sortU_eq, s_cmpU_eq, hm, hg, lr, pr, rt, eL, eN]; repeat (simp (disch := omega) only [w64_d, ipos, ineg, dpos, dneg]; try simp (config := { maxSteps := 10000000 }) only [go_sem, List.reduceReplicate, BitVec.reduceOfInt, BitVec.reduceToNat, BitVec.reduceToInt, BitVec.reduceEq, BitVec.reduceLT, BitVec.reduceLE, BitVec.reduceAdd, BitVec.reduceSub, BitVec.reduceMul, BitVec.reduceUDiv, BitVec.reduceUMod, BitVec.reduceAnd, BitVec.reduceOr, BitVec.reduceXOr, BitVec.reduceNot, BitVec.reduceNeg, BitVec.reduceHShiftLeft, BitVec.reduceHShiftRight, Nat.reduceAdd, Nat.reduceMul, Nat.reduceSub, Nat.reduceBEq, Nat.reduceEqDiff, Nat.reduceLeDiff, Nat.reduceLT, Int.reduceLE, Int.reduceLT, Int.reduceAdd, Int.reduceSub, Int.reduceMul, Int.reduceNeg, Int.reduceToNat, Int.reduceEq, ↓reduceIte, reduceCtorEq, s_egroup_eq, s_saccess_eq, s_pieces_eq, s_sline_eq, s_sortU_eq, s_cmpU_eq, hm, hg, lr, pr, rt, eL, eN]))
          have fl : (l.flatMap encP).length = 3 * l.length := by rw [fm_len encP_l, Nat.mul_comm]
          have bb : ∀ k, belH (H ++ [.dead, .dead, .vec 3 (l.flatMap encP), .vec 1 ((A.take k).map gU)]) = true := fun k => belH_app hH (by simp only [List.mem_cons, List.not_mem_nil, or_false, forall_eq_or_imp, forall_eq]; exact ⟨rfl, rfl, encP_bel _ _, map_bel gU_num _ _⟩)
          refine arun_for l.length (fun k => ([(3, .c (.sl (H.length + 3) 0 k k)), (12, .c (.sl (H.length + 2) 0 (3 * l.length) l.length)), (13, .c (.i l.length)), (14, .c (.i k))], H ++ [.dead, .dead, .vec 3 (l.flatMap encP), .vec 1 ((A.take k).map gU)])) ?_ fun k hk => ?_
          · exact Wk.trans (Wk.nil 3 1 (by decide) rfl (by simp [lo])) (Wk.wk (by simp [lo]) (by simp [Am.get]) (by simp [AV.bel, Sc.bel]) (by rw [List.append_assoc]; exact subH_pre _ ⟨.inl rfl, .inl rfl, .inr rfl, .inr rfl, trivial⟩) (bb 0))
          · have tl : ((A.take k).map gU).length = k := by simp; omega
            by_cases hlt : k < l.length
            · obtain ⟨p, hp⟩ : ∃ p, l[k]? = some p := ⟨_, List.getElem?_eq_getElem hlt⟩
              have e1 : w64 ((k : Int) + 1) = ((k + 1 : Nat) : Int) := by rw [w64_d (by omega) (by omega)]; omega
              have g1 := fm_le encP_l (L := l) (k := k) hlt
              have g3 := pc_row hp
              rw [fl] at g1
              have hA := sg k p hp
              have ht : (A.take (k + 1)).map gU = (A.take k).map gU ++ [.u (p.a / 64#64)] := by rw [List.take_add_one, hA, Option.toList_some, List.map_append]; rfl
              have k5 : (k + 1) * 8 ≤ 1099511627776 := by omega
              (try simp (config := { maxSteps := 10000000 }) only [go_sem, List.reduceReplicate, BitVec.reduceOfInt, BitVec.reduceToNat, BitVec.reduceToInt, BitVec.reduceEq, BitVec.reduceLT, BitVec.reduceLE, BitVec.reduceAdd, BitVec.reduceSub, BitVec.reduceMul, BitVec.reduceUDiv, BitVec.reduceUMod, BitVec.reduceAnd, BitVec.reduceOr, BitVec.reduceXOr, BitVec.reduceNot, BitVec.reduceNeg, BitVec.reduceHShiftLeft, BitVec.reduceHShiftRight, Nat.reduceAdd, Nat.reduceMul, Nat.reduceSub, Nat.reduceBEq, Nat.reduceEqDiff, Nat.reduceLeDiff, Nat.reduceLT, Int.reduceLE, Int.reduceLT, Int.reduceAdd, Int.reduceSub, Int.reduceMul, Int.reduceNeg, Int.reduceToNat, Int.reduceEq, ↓reduceIte, reduceCtorEq, s_egroup_eq, s_saccess_eq, s_pieces_eq, s_sline_eq, s_sortU_eq, s_cmpU_eq, e1, g1, g3, encP, fl, tl, k5, List.take_succ_cons, List.take_zero]; repeat (simp (disch := omega) only [w64_d, ipos, ineg, dpos, dneg]; try simp (config := { maxSteps := 10000000 }) only [go_sem, List.reduceReplicate, BitVec.reduceOfInt, BitVec.reduceToNat, BitVec.reduceToInt, BitVec.reduceEq, BitVec.reduceLT, BitVec.reduceLE, BitVec.reduceAdd, BitVec.reduceSub, BitVec.reduceMul, BitVec.reduceUDiv, BitVec.reduceUMod, BitVec.reduceAnd, BitVec.reduceOr, BitVec.reduceXOr, BitVec.reduceNot, BitVec.reduceNeg, BitVec.reduceHShiftLeft, BitVec.reduceHShiftRight, Nat.reduceAdd, Nat.reduceMul, Nat.reduceSub, Nat.reduceBEq, Nat.reduceEqDiff, Nat.reduceLeDiff, Nat.reduceLT, Int.reduceLE, Int.reduceLT, Int.reduceAdd, Int.reduceSub, Int.reduceMul, Int.reduceNeg, Int.reduceToNat, Int.reduceEq, ↓reduceIte, reduceCtorEq, s_egroup_eq, s_saccess_eq, s_pieces_eq, s_sline_eq, s_sortU_eq, s_cmpU_eq, e1, g1, g3, encP, fl, tl, k5, List.take_succ_cons, List.take_zero]))
              exact ⟨k + 1, by omega, by omega, Wk.wk (by simp [lo]) (by simp [Am.get]) (by simp [AV.bel, Sc.bel]) (subH_pre _ ⟨.inl rfl, .inl rfl, .inr rfl, .inr (by rw [ht]), trivial⟩) (bb (k + 1))⟩
            · obtain rfl : k = l.length := by omega
              have tA : A.take l.length = A := by rw [← sl, List.take_length]
              rw [tA]
              have lS : (srt ltU A).length = A.length := srt_len
              have p1 : s_sortU [.c (.sl (H.length + 3) 0 l.length l.length)] (H ++ [.dead, .dead, .vec 3 (l.flatMap encP), .vec 1 (A.map gU)]) = some (.t [], H ++ [.dead, .dead, .vec 3 (l.flatMap encP), .vec 1 ((srt ltU A).map gU)]) := by
                rw [s_sortU_eq (A := A) (vecD_of (g := gU) dcU_e (by rw [hg_len_add]; rfl) sl.symm sl.symm) (by omega)]
                simp only [putV, set_len_add]; rfl
              have p2 : s_cmpU [.c (.sl (H.length + 3) 0 l.length l.length)] (H ++ [.dead, .dead, .vec 3 (l.flatMap encP), .vec 1 ((srt ltU A).map gU)]) = some (.c (.sl (H.length + 3) 0 l.length (ddp (srt ltU A)).length), H ++ [.dead, .dead, .vec 3 (l.flatMap encP), .vec 1 (cmpCU (srt ltU A))]) := by
                rw [s_cmpU_eq (A := srt ltU A) (vecD_of (g := gU) dcU_e (by rw [hg_len_add]; rfl) (by omega) (by omega)) (by omega), cmpU_sl (by rw [hg_len_add]; rfl) (by simp) (by omega)]
                simp only [set_len_add]; rfl
              (try simp (config := { maxSteps := 10000000 }) only [go_sem, List.reduceReplicate, BitVec.reduceOfInt, BitVec.reduceToNat, BitVec.reduceToInt, BitVec.reduceEq, BitVec.reduceLT, BitVec.reduceLE, BitVec.reduceAdd, BitVec.reduceSub, BitVec.reduceMul, BitVec.reduceUDiv, BitVec.reduceUMod, BitVec.reduceAnd, BitVec.reduceOr, BitVec.reduceXOr, BitVec.reduceNot, BitVec.reduceNeg, BitVec.reduceHShiftLeft, BitVec.reduceHShiftRight, Nat.reduceAdd, Nat.reduceMul, Nat.reduceSub, Nat.reduceBEq, Nat.reduceEqDiff, Nat.reduceLeDiff, Nat.reduceLT, Int.reduceLE, Int.reduceLT, Int.reduceAdd, Int.reduceSub, Int.reduceMul, Int.reduceNeg, Int.reduceToNat, Int.reduceEq, ↓reduceIte, reduceCtorEq, p1, p2]; repeat (simp (disch := omega) only [w64_d, ipos, ineg, dpos, dneg]; try simp (config := { maxSteps := 10000000 }) only [go_sem, List.reduceReplicate, BitVec.reduceOfInt, BitVec.reduceToNat, BitVec.reduceToInt, BitVec.reduceEq, BitVec.reduceLT, BitVec.reduceLE, BitVec.reduceAdd, BitVec.reduceSub, BitVec.reduceMul, BitVec.reduceUDiv, BitVec.reduceUMod, BitVec.reduceAnd, BitVec.reduceOr, BitVec.reduceXOr, BitVec.reduceNot, BitVec.reduceNeg, BitVec.reduceHShiftLeft, BitVec.reduceHShiftRight, Nat.reduceAdd, Nat.reduceMul, Nat.reduceSub, Nat.reduceBEq, Nat.reduceEqDiff, Nat.reduceLeDiff, Nat.reduceLT, Int.reduceLE, Int.reduceLT, Int.reduceAdd, Int.reduceSub, Int.reduceMul, Int.reduceNeg, Int.reduceToNat, Int.reduceEq, ↓reduceIte, reduceCtorEq, p1, p2]))
              rw [sl]
              exact fin_tail1 3 (Nat.le_refl _) hH rfl cmpCU_bel ren_sl0.symm (by simp [AV.bel, Sc.bel])
      · have hL : isL kk c s = false := by simp [isL, hg]
        rw [hL] at h
        simp only [Bool.false_eq_true, if_false, Option.some.injEq, Prod.mk.injEq] at h
        obtain ⟨rfl, rfl⟩ := h
        refine ⟨by simp only [List.length_cons, List.length_nil]; decide, ?_⟩
        (try simp (config := { maxSteps := 10000000 }) only [go_sem, List.reduceReplicate, BitVec.reduceOfInt, BitVec.reduceToNat, BitVec.reduceToInt, BitVec.reduceEq, BitVec.reduceLT, BitVec.reduceLE, BitVec.reduceAdd, BitVec.reduceSub, BitVec.reduceMul, BitVec.reduceUDiv, BitVec.reduceUMod, BitVec.reduceAnd, BitVec.reduceOr, BitVec.reduceXOr, BitVec.reduceNot, BitVec.reduceNeg, BitVec.reduceHShiftLeft, BitVec.reduceHShiftRight, Nat.reduceAdd, Nat.reduceMul, Nat.reduceSub, Nat.reduceBEq, Nat.reduceEqDiff, Nat.reduceLeDiff, Nat.reduceLT, Int.reduceLE, Int.reduceLT, Int.reduceAdd, Int.reduceSub, Int.reduceMul, Int.reduceNeg, Int.reduceToNat, Int.reduceEq, ↓reduceIte, reduceCtorEq, s_egroup_eq, s_saccess_eq, s_pieces_eq, s_sline_eq, s_sortU_eq, s_cmpU_eq, hg, lr, pr, rt]; repeat (simp (disch := omega) only [w64_d, ipos, ineg, dpos, dneg]; try simp (config := { maxSteps := 10000000 }) only [go_sem, List.reduceReplicate, BitVec.reduceOfInt, BitVec.reduceToNat, BitVec.reduceToInt, BitVec.reduceEq, BitVec.reduceLT, BitVec.reduceLE, BitVec.reduceAdd, BitVec.reduceSub, BitVec.reduceMul, BitVec.reduceUDiv, BitVec.reduceUMod, BitVec.reduceAnd, BitVec.reduceOr, BitVec.reduceXOr, BitVec.reduceNot, BitVec.reduceNeg, BitVec.reduceHShiftLeft, BitVec.reduceHShiftRight, Nat.reduceAdd, Nat.reduceMul, Nat.reduceSub, Nat.reduceBEq, Nat.reduceEqDiff, Nat.reduceLeDiff, Nat.reduceLT, Int.reduceLE, Int.reduceLT, Int.reduceAdd, Int.reduceSub, Int.reduceMul, Int.reduceNeg, Int.reduceToNat, Int.reduceEq, ↓reduceIte, reduceCtorEq, s_egroup_eq, s_saccess_eq, s_pieces_eq, s_sline_eq, s_sortU_eq, s_cmpU_eq, hg, lr, pr, rt]))
        exact fin_fp rfl (subH_app _ _) hH (Nat.le_refl _)
    · simp at h
  · simp at h
end
end Go.Proofs.Ytamjmjllgmachaa
