/- Layer 17: a port that is written: contracts. -/
import Derived.Test.YtfddaaplnnlfoaaU4
namespace Go.Proofs.Ytfddaaplnnlfoaa
open Go.Am
set_option linter.unusedSimpArgs false
set_option linter.unusedVariables false
noncomputable section

theorem come_poD {id : Nat} {b : Int} {H H1 : AH} {v : AV} (h : s_ucome [.c (.p id 0 0), .c (.k .u8 b)] H = some (v, H1)) : ∃ p, poD (hg H1 id) = some p ∧ id < H1.length := by
  have hlen := len_ucome _ _ _ _ h
  unfold s_ucome at h
  simp only at h
  split at h
  · rename_i p hp
    have lid : id < H.length := hg_lt (by rw [poD_inv hp]; rfl)
    split at h
    · split at h
      · simp only [Option.some.injEq, Prod.mk.injEq] at h
        rw [← h.2, hg_set_same lid]
        exact ⟨_, rfl, by simpa using lid⟩
      · split at h
        · rename_i x' H2 hq
          simp only [Option.some.injEq, Prod.mk.injEq] at h
          have l2 := push_len hq
          rw [← h.2, hg_set_same (by omega)]
          exact ⟨_, rfl, by rw [List.length_set]; omega⟩
        · simp at h
    · simp at h
  · simp at h
def s_usend (args : List AV) (H : AH) : Option (AV × AH) :=
  match args with
  | [.c (.p id 0 0), .c (.k .u8 b)] =>
    match poD (hg H id) with
    | some p =>
      if an8 p.m 16 = 0 then
        match pushS H p.y (.k .u8 b) with
        | some (y', H1) => some (.t [], H1.set id (.own (poC { p with y := y', em := true })))
        | none => none
      else
        match s_ucome [.c (.p id 0 0), .c (.k .u8 b)] H with
        | some (_, H1) =>
          match poD (hg H1 id) with
          | some p1 => some (.t [], H1.set id (.own (poC { p1 with em := true })))
          | none => none
        | none => none
    | none => none
  | _ => none
theorem len_usend (args : List AV) (H : AH) (v : AV) (H1 : AH) (h : s_usend args H = some (v, H1)) : H.length ≤ H1.length := by
  unfold s_usend at h
  repeat' split at h
  all_goals simp at h
  · rename_i hp; rw [← h.2]; simpa using push_len hp
  · rename_i hp _ _ _; rw [← h.2]; simpa using len_ucome _ _ _ _ hp
set_option maxRecDepth 100000 in
set_option maxHeartbeats 2000000 in
theorem ok_usend : FpOk Try.prog 89 s_usend := by
  refine fp_ok (s := s_usend) (tab := [(67, .fp s_ucome)]) hmix (TabOk.cons (e := .fp s_ucome) ok_ucome TabOk.nil) Try.func89 rfl Try.results89 Try.ntmps89 (by kernel_rfl) (by kernel_rfl) len_usend ?_
  intro args H v H1 h hargs hH
  unfold s_usend at h
  split at h
  · rename_i id b
    split at h
    · rename_i p hp
      have hm := poD_inv hp
      have lid : id < H.length := hg_lt (by rw [hm]; rfl)
      obtain ⟨bx, by'⟩ := po_bel hH hp
      obtain ⟨e, l, m, s, dl, dm, ff, lo, em, x, y⟩ := p
      simp only at hm bx by' h
      have gx : ∀ X, hg (H ++ X) id = _ := fun X => (hg_lt' lid).trans hm
      have sx : ∀ X o, (H ++ X).set id o = H.set id o ++ X := fun X o => List.set_append_left _ _ lid
      refine ⟨by simp only [List.length_cons, List.length_nil]; decide, ?_⟩
      split at h
      · rename_i hm0
        split at h
        · rename_i y' H2 hps
          simp only [Option.some.injEq, Prod.mk.injEq] at h
          obtain ⟨rfl, rfl⟩ := h
          have cases : y = .nils ∨ ∃ i o v n, y = .sl i o v n := by
            unfold pushS at hps
            split at hps
            · exact .inl rfl
            · exact .inr ⟨_, _, _, _, rfl⟩
            · simp at hps
          rcases cases with rfl | ⟨i, o, v, n, rfl⟩
          · simp [pushS] at hps
            obtain ⟨rfl, rfl⟩ := hps
            have gh : ∀ X o, hg (H.set id o ++ X) id = o := fun X o => (hg_lt' (by simpa using lid)).trans (hg_set_same lid)
            have sh : ∀ X o o', (H.set id o ++ X).set id o' = H.set id o' ++ X := fun X o o' => by rw [List.set_append_left _ _ (by simpa using lid), List.set_set]
            (try simp (config := { maxSteps := 10000000 }) only [go_sem, seval, hm, hm0, gx, sx, gh, sh]; repeat (simp (disch := omega) only [w64_d, ipos, ineg, dpos, dneg]; try simp (config := { maxSteps := 10000000 }) only [go_sem, seval, hm, hm0, gx, sx, gh, sh]))
            apply fin_fp
            · rfl
            · exact subH_pre _ ⟨.inl rfl, .inr rfl, trivial⟩
            · rw [← sx]
              refine bel_set' (belH_app hH (by simp [AObj.cells, AObj.scs, Sc.bel])) (poC_bel (p := ⟨e, l, m, s, dl, dm, ff, lo, true, x, _⟩) ?_ ?_)
              · exact Sc.bel_mono bx (by simp)
              · simp [Sc.bel]
            · simp
          · obtain ⟨cs, rfl, hi, c1, c2, c3, rfl, rfl⟩ := push_inv hps
            have li : i < H.length := hg_lt (by rw [hi]; rfl)
            have ne : i ≠ id := fun e => by rw [e, hm] at hi; simp at hi
            have gi : ∀ X, hg (H ++ X) i = _ := fun X => (hg_lt' li).trans hi
            have si : ∀ X o, (H ++ X).set i o = H.set i o ++ X := fun X o => List.set_append_left _ _ li
            have gs : ∀ X o, hg (H.set i o ++ X) id = _ := fun X o => (hg_lt' (by simpa using lid)).trans ((hg_set_ne' ne).trans hm)
            have ss : ∀ X o o', (H.set i o ++ X).set id o' = (H.set i o).set id o' ++ X := fun X o o' => List.set_append_left _ _ (by simpa using lid)
            have gg : ∀ X o o', hg ((H.set i o).set id o' ++ X) id = o' := fun X o o' => (hg_lt' (by simpa using lid)).trans (hg_set_same (by simpa using lid))
            have sg : ∀ X o o' o'', ((H.set i o).set id o' ++ X).set id o'' = (H.set i o).set id o'' ++ X := fun X o o' o'' => by rw [List.set_append_left _ _ (by simpa using lid), List.set_set]
            have c4 : n ≤ 1099511627775 := by omega
            (try simp (config := { maxSteps := 10000000 }) only [go_sem, seval, hm, hm0, gx, sx, gi, si, gs, ss, gg, sg, c1, c2, c4]; repeat (simp (disch := omega) only [w64_d, ipos, ineg, dpos, dneg]; try simp (config := { maxSteps := 10000000 }) only [go_sem, seval, hm, hm0, gx, sx, gi, si, gs, ss, gg, sg, c1, c2, c4]))
            have bi := bel_at hH i
            rw [hi] at bi
            apply fin_fp
            · rfl
            · exact subH_app _ _
            · refine bel_set' (bel_set' hH ?_) (poC_bel (p := ⟨e, l, m, s, dl, dm, ff, lo, true, x, _⟩) ?_ ?_)
              · simp only [AObj.cells, AObj.scs, List.all_append, List.all_cons, List.all_nil, Bool.and_true, Sc.bel] at bi ⊢
                exact bi
              · simpa using bx
              · simpa [Sc.bel] using li
            · simp
        · simp at h
      · rename_i hm0
        split at h
        · rename_i w H2 hc
          split at h
          · rename_i p1 hp1
            simp only [Option.some.injEq, Prod.mk.injEq] at h
            obtain ⟨rfl, rfl⟩ := h
            have hm1 := poD_inv hp1
            (try simp (config := { maxSteps := 10000000 }) only [go_sem, seval, hm, hm0, hc, hm1]; repeat (simp (disch := omega) only [w64_d, ipos, ineg, dpos, dneg]; try simp (config := { maxSteps := 10000000 }) only [go_sem, seval, hm, hm0, hc, hm1]))
            exact fin_same
          · simp at h
        · simp at h
    · simp at h
  · simp at h
def s_uqueue (args : List AV) (H : AH) : Option (AV × AH) :=
  match args with
  | [.c (.p id 0 0), .c (.k .u8 b)] =>
    match poD (hg H id) with
    | some p =>
      if (decide (¬ an8 b 1 = 0) == p.ff) = true ∧ an8 b 2 = 0 then some (.t [], H.set id (.own (poC { p with ff := decide (¬ an8 b 1 = 0) })))
      else some (.t [], H.set id (.own (poC { p with ff := decide (¬ an8 b 1 = 0), x := .nils })))
    | none => none
  | _ => none
theorem len_uqueue (args : List AV) (H : AH) (v : AV) (H1 : AH) (h : s_uqueue args H = some (v, H1)) : H.length ≤ H1.length := by
  unfold s_uqueue at h
  repeat' split at h
  all_goals simp at h
  all_goals rw [← h.2]; simp
set_option maxRecDepth 100000 in
set_option maxHeartbeats 2000000 in
theorem ok_uqueue : FpOk Try.prog 90 s_uqueue := by
  refine fp_ok (s := s_uqueue) (tab := []) hmix TabOk.nil Try.func90 rfl Try.results90 Try.ntmps90 (by kernel_rfl) (by kernel_rfl) len_uqueue ?_
  intro args H v H1 h hargs hH
  unfold s_uqueue at h
  split at h
  · rename_i id b
    split at h
    · rename_i p hp
      have hm := poD_inv hp
      have lid : id < H.length := hg_lt (by rw [hm]; rfl)
      obtain ⟨e, l, m, s, dl, dm, ff, lo, em, x, y⟩ := p
      simp only at hm h
      refine ⟨by simp only [List.length_cons, List.length_nil]; decide, ?_⟩
      have gg : ∀ o, hg (H.set id o) id = o := fun o => hg_set_same lid
      by_cases h1 : an8 b 1 = 0 <;> by_cases h2 : an8 b 2 = 0 <;> cases ff
      all_goals simp [h1, h2] at h
      all_goals obtain ⟨rfl, rfl⟩ := h
      all_goals (try simp (config := { maxSteps := 10000000 }) only [go_sem, seval, hm, h1, h2, gg]; repeat (simp (disch := omega) only [w64_d, ipos, ineg, dpos, dneg]; try simp (config := { maxSteps := 10000000 }) only [go_sem, seval, hm, h1, h2, gg]))
      all_goals exact fin_same
    · simp at h
  · simp at h
end
end Go.Proofs.Ytfddaaplnnlfoaa
