/- Layer 17: a port that changes: contracts. -/
import Derived.Test.YtfddaaplnnlfoaaU1
namespace Go.Proofs.Ytfddaaplnnlfoaa
open Go.Am
set_option linter.unusedSimpArgs false
set_option linter.unusedVariables false
noncomputable section

theorem po_bel {H : AH} (hH : belH H = true) {id : Nat} {p : Po} (h : poD (hg H id) = some p) : p.x.bel H.length = true ∧ p.y.bel H.length = true := by
  have a := bel_at hH id
  rw [poD_inv h] at a
  simp [AObj.cells, AObj.scs, Sc.bel] at a
  exact a
theorem poC_bel {p : Po} {n : Nat} (hx : p.x.bel n = true) (hy : p.y.bel n = true) : (poC p).all (Sc.bel n) = true := by
  simp only [poC, List.all_cons, List.all_nil, Sc.bel, Bool.true_and, Bool.and_true]
  change (p.x.bel n && p.y.bel n) = true
  rw [hx, hy]; rfl
/-- one more at the end -/
def pushS (H : AH) (x b : Sc) : Option (Sc × AH) :=
  match x with
  | .nils => some (.sl (H.length + 1) 0 1 1, H ++ [.dead, .vec 1 [b]])
  | .sl i 0 v n =>
    match hg H i with
    | .vec 1 cs => if v = cs.length ∧ cs.length = n ∧ n ≤ 1000000 then some (.sl i 0 (n + 1) (n + 1), H.set i (.vec 1 (cs ++ [b]))) else none
    | _ => none
  | _ => none
def s_ucome (args : List AV) (H : AH) : Option (AV × AH) :=
  match args with
  | [.c (.p id 0 0), .c (.k .u8 b)] =>
    match poD (hg H id) with
    | some p =>
      match lenS p.x with
      | some n =>
        if roomT p ≤ n then some (.c (.b false), H.set id (.own (poC { p with lo := true })))
        else match pushS H p.x (.k .u8 b) with
          | some (x', H1) => some (.c (.b true), H1.set id (.own (poC { p with x := x' })))
          | none => none
      | none => none
    | none => none
  | _ => none
theorem push_inv {H : AH} {i o v n : Nat} {b x' : Sc} {H2 : AH} (h : pushS H (.sl i o v n) b = some (x', H2)) : ∃ cs, o = 0 ∧ hg H i = .vec 1 cs ∧ v = cs.length ∧ cs.length = n ∧ n ≤ 1000000 ∧ x' = .sl i 0 (n + 1) (n + 1) ∧ H2 = H.set i (.vec 1 (cs ++ [b])) := by
  unfold pushS at h
  split at h
  · rename_i hq; simp at hq
  · rename_i i' v' n' hq
    simp only [Sc.sl.injEq] at hq
    obtain ⟨rfl, rfl, rfl, rfl⟩ := hq
    split at h
    · rename_i cs hi
      split at h
      · rename_i hc
        simp only [Option.some.injEq, Prod.mk.injEq] at h
        exact ⟨cs, rfl, hi, hc.1, hc.2.1, hc.2.2, h.1.symm, h.2.symm⟩
      · simp at h
    · simp at h
  · simp at h
theorem push_len {H : AH} {x b x' : Sc} {H1 : AH} (h : pushS H x b = some (x', H1)) : H.length ≤ H1.length := by
  unfold pushS at h
  repeat' split at h
  all_goals simp at h
  all_goals rw [← h.2]
  all_goals simp
theorem len_ucome (args : List AV) (H : AH) (v : AV) (H1 : AH) (h : s_ucome args H = some (v, H1)) : H.length ≤ H1.length := by
  unfold s_ucome at h
  repeat' split at h
  all_goals simp at h
  · rw [← h.2]; simp
  · rename_i hp; rw [← h.2]; simpa using push_len hp
set_option maxRecDepth 100000 in
set_option maxHeartbeats 2000000 in
theorem ok_ucome : FpOk Try.prog 67 s_ucome := by
  refine fp_ok (s := s_ucome) (tab := [(91, .fq s_uroom)]) hmix (TabOk.cons (e := .fq s_uroom) ok_uroom TabOk.nil) Try.func67 rfl Try.results67 Try.ntmps67 (by kernel_rfl) (by kernel_rfl) len_ucome ?_
  intro args H v H1 h hargs hH
  unfold s_ucome at h
  split at h
  · rename_i id b
    split at h
    · rename_i p hp
      have hm := poD_inv hp
      have lid : id < H.length := hg_lt (by rw [hm]; rfl)
      have r0 := s_uroom_eq hp
      generalize roomT p = R at h r0
      obtain ⟨bx, by'⟩ := po_bel hH hp
      obtain ⟨e, l, m, s, dl, dm, ff, lo, em, x, y⟩ := p
      simp only at hm bx by' r0 h
      have gx : ∀ X, hg (H ++ X) id = _ := fun X => (hg_lt' lid).trans hm
      have sx : ∀ X o, (H ++ X).set id o = H.set id o ++ X := fun X o => List.set_append_left _ _ lid
      split at h
      · rename_i n hn
        split at h
        · rename_i hr
          simp only [Option.some.injEq, Prod.mk.injEq] at h
          obtain ⟨rfl, rfl⟩ := h
          refine ⟨by simp only [List.length_cons, List.length_nil]; decide, ?_⟩
          have bb : belH (H.set id (.own (poC ⟨e, l, m, s, dl, dm, ff, true, em, x, y⟩))) = true := bel_set' hH (poC_bel (p := ⟨e, l, m, s, dl, dm, ff, true, em, x, y⟩) bx by')
          rcases lenS_inv hn with ⟨rfl, rfl⟩ | ⟨i, o, v, rfl⟩
          · (try simp (config := { maxSteps := 10000000 }) only [go_sem, seval, hm, r0, hr]; repeat (simp (disch := omega) only [w64_d, ipos, ineg, dpos, dneg]; try simp (config := { maxSteps := 10000000 }) only [go_sem, seval, hm, r0, hr]))
            apply fin_fp
            · rfl
            · exact subH_refl _
            · exact bb
            · simp
          · (try simp (config := { maxSteps := 10000000 }) only [go_sem, seval, hm, r0, hr]; repeat (simp (disch := omega) only [w64_d, ipos, ineg, dpos, dneg]; try simp (config := { maxSteps := 10000000 }) only [go_sem, seval, hm, r0, hr]))
            apply fin_fp
            · rfl
            · exact subH_refl _
            · exact bb
            · simp
        · rename_i hr
          split at h
          · rename_i x' H2 hps
            simp only [Option.some.injEq, Prod.mk.injEq] at h
            obtain ⟨rfl, rfl⟩ := h
            refine ⟨by simp only [List.length_cons, List.length_nil]; decide, ?_⟩
            rcases lenS_inv hn with ⟨rfl, rfl⟩ | ⟨i, o, v, rfl⟩
            · simp [pushS] at hps
              obtain ⟨rfl, rfl⟩ := hps
              (try simp (config := { maxSteps := 10000000 }) only [go_sem, seval, hm, r0, hr, gx, sx]; repeat (simp (disch := omega) only [w64_d, ipos, ineg, dpos, dneg]; try simp (config := { maxSteps := 10000000 }) only [go_sem, seval, hm, r0, hr, gx, sx]))
              apply fin_fp
              · rfl
              · exact subH_pre _ ⟨.inl rfl, .inr rfl, trivial⟩
              · rw [← sx]
                refine bel_set' (belH_app hH (by simp [AObj.cells, AObj.scs, Sc.bel])) (poC_bel (p := ⟨e, l, m, s, dl, dm, ff, lo, em, _, y⟩) ?_ ?_)
                · simp [Sc.bel]
                · exact Sc.bel_mono by' (by simp)
              · simp
            · obtain ⟨cs, rfl, hi, c1, c2, c3, rfl, rfl⟩ := push_inv hps
              have li : i < H.length := hg_lt (by rw [hi]; rfl)
              have ne : i ≠ id := fun e => by rw [e, hm] at hi; simp at hi
              have gi : ∀ X, hg (H ++ X) i = _ := fun X => (hg_lt' li).trans hi
              have si : ∀ X o, (H ++ X).set i o = H.set i o ++ X := fun X o => List.set_append_left _ _ li
              have gs : ∀ X o, hg (H.set i o ++ X) id = _ := fun X o => (hg_lt' (by simpa using lid)).trans ((hg_set_ne' ne).trans hm)
              have ss : ∀ X o o', (H.set i o ++ X).set id o' = (H.set i o).set id o' ++ X := fun X o o' => List.set_append_left _ _ (by simpa using lid)
              have c4 : n ≤ 1099511627775 := by omega
              (try simp (config := { maxSteps := 10000000 }) only [go_sem, seval, hm, r0, hr, gx, sx, gi, si, gs, ss, c1, c2, c4]; repeat (simp (disch := omega) only [w64_d, ipos, ineg, dpos, dneg]; try simp (config := { maxSteps := 10000000 }) only [go_sem, seval, hm, r0, hr, gx, sx, gi, si, gs, ss, c1, c2, c4]))
              have bi := bel_at hH i
              rw [hi] at bi
              apply fin_fp
              · rfl
              · exact subH_app _ _
              · refine bel_set' (bel_set' hH ?_) (poC_bel (p := ⟨e, l, m, s, dl, dm, ff, lo, em, _, y⟩) ?_ ?_)
                · simp only [AObj.cells, AObj.scs, List.all_append, List.all_cons, List.all_nil, Bool.and_true, Sc.bel] at bi ⊢
                  exact bi
                · simpa [Sc.bel] using li
                · simpa using by'
              · simp
          · simp at h
      · simp at h
    · simp at h
  · simp at h
end
end Go.Proofs.Ytfddaaplnnlfoaa
