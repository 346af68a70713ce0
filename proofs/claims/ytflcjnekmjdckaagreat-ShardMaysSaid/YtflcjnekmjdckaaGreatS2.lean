/- Layer 11: an access' pieces, and the law SplitPlaces. -/
import Derived.Test.YtflcjnekmjdckaaGreatS1
namespace Go.Proofs.YtflcjnekmjdckaaGreat
open Go.Am
set_option linter.unusedSimpArgs false
set_option linter.unusedVariables false
noncomputable section

/-- an access' pieces -/
def accL (a b : BitVec 64) (c s : Int) : List Sc := if smB c s = true then (if c = 0 then pcs a s 0 else pcs a c 0 ++ pcs b (s - c) (8 * c)) else []
def accN (a b : BitVec 64) (c s : Int) : Nat := if smB c s = true then (if c = 0 then pcN a s else pcN a c + pcN b (s - c)) else 0
theorem pcs_len {a : BitVec 64} {n s : Int} : (pcs a n s).length = 3 * pcN a n := by unfold pcs pcN; split <;> rfl
theorem pcN_le {a : BitVec 64} {n : Int} : 1 ≤ pcN a n ∧ pcN a n ≤ 2 := by unfold pcN; split <;> omega
def s_pieces (args : List AV) (H : AH) : Option (AV × AH) :=
  match args with
  | [.g [.u a, .u b, .i c, .i s]] => if smB c s = true then some (.c (.sl (H.length + 1) 0 (3 * accN a b c s) (accN a b c s)), H ++ [.dead, .vec 3 (accL a b c s)]) else some (.c .nils, H)
  | _ => none
theorem s_pieces_eq {a b : BitVec 64} {c s : Int} {H : AH} : s_pieces [.g [.u a, .u b, .i c, .i s]] H = if smB c s = true then some (.c (.sl (H.length + 1) 0 (3 * accN a b c s) (accN a b c s)), H ++ [.dead, .vec 3 (accL a b c s)]) else some (.c .nils, H) := rfl
theorem len_pieces (args : List AV) (H : AH) (v : AV) (H1 : AH) (h : s_pieces args H = some (v, H1)) : H.length ≤ H1.length := by
  unfold s_pieces at h
  split at h
  · split at h
    all_goals simp only [Option.some.injEq, Prod.mk.injEq] at h
    all_goals rw [← h.2]
    all_goals simp
  · simp at h
theorem pcs_pf {a : BitVec 64} {n s : Int} : (pcs a n s).all Sc.pf = true := by unfold pcs; split <;> rfl
theorem subH_dead1 (H : AH) (x y : AObj) : subH (H ++ [.dead, y]) (H ++ [x, y]) := by
  induction H with
  | nil => exact ⟨.inl rfl, .inr rfl, trivial⟩
  | cons o r ih => exact ⟨.inr rfl, ih⟩
theorem bel_app2 {H : AH} {o : AObj} (hH : belH H = true) (ho : o.scs.all (Sc.bel (H.length + 2)) = true) : belH (H ++ [.dead, o]) = true := by
  simp only [belH, List.all_append, List.all_cons, List.all_nil, Bool.and_true, Bool.and_eq_true, List.length_append, List.length_cons, List.length_nil]
  refine ⟨List.all_eq_true.2 fun x hx => List.all_eq_true.2 fun s hs => ?_, rfl, ho⟩
  have := List.all_eq_true.1 (List.all_eq_true.1 hH x hx) s hs
  exact Sc.bel_mono this (by omega)
set_option maxRecDepth 100000 in
set_option maxHeartbeats 2000000 in
theorem ok_pieces : FpOk Tryz.prog 31 s_pieces := by
  refine fp_ok (s := s_pieces) (tab := [(56, .pu s_smay), (60, .fp s_run)]) hmix (TabOk.cons (e := .pu s_smay) ok_smay (TabOk.cons (e := .fp s_run) ok_run TabOk.nil)) Tryz.func31 rfl Tryz.results31 Tryz.ntmps31 (by kernel_rfl) (by kernel_rfl) len_pieces ?_
  intro args H v H1 h hargs hH
  unfold s_pieces at h
  split at h
  · rename_i a b c s
    split at h
    · rename_i hm
      simp only [Option.some.injEq, Prod.mk.injEq] at h
      obtain ⟨rfl, rfl⟩ := h
      refine ⟨by simp only [List.length_cons, List.length_nil]; decide, ?_⟩
      have hm' : 1 ≤ s ∧ s ≤ 8 ∧ 0 ≤ c ∧ c < s := by simpa [smB] using hm
      by_cases hc : c = 0
      · subst hc
        have r := s_run_eq (H := H ++ [.own [.u a, .u b, .i 0, .i s]]) (l0 := .nils) (a := a) (n := s) (s := 0) (by omega) vecAt_nils (by omega)
        have n1 : accN a b 0 s = pcN a s := by simp only [accN, hm, if_true]
        have n2 : accL a b 0 s = pcs a s 0 := by simp only [accL, hm, if_true]
        simp (config := { maxSteps := 10000000 }) only [go_sem, seval, s_smay_eq, s_run_eq, hm, r]
        exact ⟨_, rfl, Wk.wk (by simp [lo]) (by simp [Am.get, n1]) (by simp [AV.bel, Sc.bel]) (by rw [vecPut_nils, n2, List.append_assoc]; exact subH_dead1 H _ _) (by rw [n2]; exact bel_app2 hH (pf_bel _ pcs_pf))⟩
      · have r := s_run_eq (H := H ++ [.own [.u a, .u b, .i c, .i s]]) (l0 := .nils) (a := a) (n := c) (s := 0) (by omega) vecAt_nils (by omega)
        have f1 : (H ++ [AObj.own [.u a, .u b, .i c, .i s]]).length = H.length + 1 := by simp
        have pa := @pcN_le a c
        have la := @pcs_len a c 0
        have e1 : w64 (s - c) = s - c := w64_of (by omega)
        have e2 : w64 (8 * c) = 8 * c := w64_of (by omega)
        have n1 : accN a b c s = pcN a c + pcN b (s - c) := by simp only [accN, hm, hc, if_true, if_false]
        have n2 : accL a b c s = pcs a c 0 ++ pcs b (s - c) (8 * c) := by simp only [accL, hm, hc, if_true, if_false]
        have r2 := s_run_eq (H := vecPut 3 (H ++ [.own [.u a, .u b, .i c, .i s]]) .nils ([] ++ pcs a c 0)) (l0 := .sl (H.length + 1) 0 (3 * pcN a c) (pcN a c)) (a := b) (n := s - c) (s := 8 * c) (id := H.length + 1) (cs := pcs a c 0) (k := pcN a c) (by omega)
          (vecAt_sl (by rw [vecPut_nils, List.append_assoc]; exact hg_len_add) (by omega) la.symm) (by omega)
        rw [vecPut_sl, vecPut_nils, List.append_assoc, set_len_add] at r2
        simp only [List.cons_append, List.nil_append, List.set_cons_succ, List.set_cons_zero] at r2
        simp (config := { maxSteps := 10000000 }) only [go_sem, seval, s_smay_eq, s_run_eq, hm, hc, r, vecPut_nils, e1, e2, r2]
        exact ⟨by decide, _, rfl, Wk.wk (by simp [lo]) (by simp [Am.get, n1, la]; omega) (by simp [AV.bel, Sc.bel]) (by rw [n2]; exact subH_dead1 H _ _) (by rw [n2]; exact bel_app2 hH (pf_bel _ (by show (pcs a c 0 ++ pcs b (s - c) (8 * c)).all Sc.pf = true; rw [List.all_append, Bool.and_eq_true]; exact ⟨pcs_pf, pcs_pf⟩)))⟩
    · rename_i hm
      simp only [Option.some.injEq, Prod.mk.injEq] at h
      obtain ⟨rfl, rfl⟩ := h
      refine ⟨by simp only [List.length_cons, List.length_nil]; decide, ?_⟩
      simp (config := { maxSteps := 10000000 }) only [go_sem, seval, s_smay_eq, s_run_eq, hm]
      exact ⟨_, rfl, Wk.wk (by simp [lo]) (by simp [Am.get]) rfl (subH_app _ _) hH⟩
  · simp at h


end
end Go.Proofs.YtflcjnekmjdckaaGreat
