/- Layer 27: a walk that is told, and begun: contracts. -/
import Derived.Test.YtanblagbkhpolaaWk1
namespace Go.Proofs.Ytanblagbkhpolaa
open Go.Am
set_option linter.unusedSimpArgs false
set_option linter.unusedVariables false
noncomputable section

set_option maxHeartbeats 4000000 in
set_option maxRecDepth 100000 in
set_option maxHeartbeats 2000000 in
theorem ok_wtell : FpOk Try.prog 5 s_wtell := by
  refine fp_ok (s := s_wtell) (tab := [(20, .fq s_wended), (21, .fp s_wstart), (22, .fq s_wmarked), (23, .fp s_wlook), (19, .pu s_pkind), (24, .pu s_ppn), (18, .pu s_plets)]) hmix (TabOk.cons (e := .fq s_wended) ok_wended (TabOk.cons (e := .fp s_wstart) ok_wstart (TabOk.cons (e := .fq s_wmarked) ok_wmarked (TabOk.cons (e := .fp s_wlook) ok_wlook (TabOk.cons (e := .pu s_pkind) ok_pkind (TabOk.cons (e := .pu s_ppn) ok_ppn (TabOk.cons (e := .pu s_plets) ok_plets TabOk.nil))))))) Try.func5 rfl Try.results5 Try.ntmps5 (by kernel_rfl) (by kernel_rfl) len_wtell ?_
  intro args H v H1 h hargs hH
  unfold s_wtell at h
  split at h
  · rename_i x d g m
    split at h
    · rename_i hm
      rw [Option.map_eq_some_iff] at h
      obtain ⟨r, h1, h2⟩ := h
      simp only [Prod.mk.injEq] at h2
      obtain ⟨rfl, rfl⟩ := h2
      obtain ⟨lm, om⟩ := hm
      refine ⟨by simp only [List.length_cons, List.length_nil]; decide, ?_⟩
      rcases wkO_cases h1 with ⟨rfl, rfl⟩ | ⟨id, s, rfl, rfl, e, lid⟩
      · (try simp (config := { maxSteps := 10000000 }) only [go_sem, seval, lm, om]; repeat (simp (disch := omega) only [w64_d, ipos, ineg, dpos, dneg]; try simp (config := { maxSteps := 10000000 }) only [go_sem, seval, lm, om]))
        apply arun_straight
        (try simp (config := { maxSteps := 10000000 }) only [go_sem, seval, s_wended_n]; repeat (simp (disch := omega) only [w64_d, ipos, ineg, dpos, dneg]; try simp (config := { maxSteps := 10000000 }) only [go_sem, seval, s_wended_n]))
        exact ⟨_, rfl, Wk.wk (by simp) (by simp [Am.get]) rfl (subH_app _ _) hH⟩
      · have gx : ∀ X, hg (H ++ X) id = .own (wkC s) := fun X => by rw [hg_lt' lid]; exact e
        have gS : ∀ o X, hg (H.set id o ++ X) id = o := fun o X => by rw [hg_lt' (by simpa using lid)]; exact hg_set_same lid
        have sS : ∀ o p X, (H.set id o ++ X).set id p = H.set id p ++ X := fun o p X => by rw [List.set_append_left _ _ (by simpa using lid), List.set_set]
        have sx : ∀ X o, (H ++ X).set id o = H.set id o ++ X := fun X o => List.set_append_left _ _ lid
        have q1 := fun X => s_wended_of (gx X)
        cases h0 : endedW s
        rotate_left
        · (try simp (config := { maxSteps := 10000000 }) only [go_sem, seval, lm, om]; repeat (simp (disch := omega) only [w64_d, ipos, ineg, dpos, dneg]; try simp (config := { maxSteps := 10000000 }) only [go_sem, seval, lm, om]))
          apply arun_straight
          have et : tellW s d g = s := by unfold tellW; rw [if_pos h0]
          simp only [et, set_self e lid]
          (try simp (config := { maxSteps := 10000000 }) only [go_sem, seval, q1, h0]; repeat (simp (disch := omega) only [w64_d, ipos, ineg, dpos, dneg]; try simp (config := { maxSteps := 10000000 }) only [go_sem, seval, q1, h0]))
          exact ⟨_, rfl, Wk.wk (by simp) (by simp [Am.get]) rfl (subH_app _ _) hH⟩
        have nl1 : ∀ k, (H.length + k = id) = False := fun k => eq_false (by omega)
        have nl2 : (H.length = id) = False := eq_false (by omega)
        have bS : ∀ s', belH (H.set id (.own (wkC s'))) = true := fun s' => bel_set hH (wkC_bel _ _)
        have fin : ∀ (s' : Wst) (X : AH), ∃ v', some (AV.t []) = some v' ∧ Wk H.length [(0, v')] (H.set id (.own (wkC s')) ++ X) ([(0, .t [])], H.set id (.own (wkC s'))) := fun s' X => fin_set hH X rfl
        obtain ⟨a, b, c, dd, e1, f, gg, hh, i, j, k, l, mk, n⟩ := s
        have qm := fun X => s_wmarked_of (gx X)
        have qm2 := fun X => s_wmarked_of (H := H.set id (.own (wkC ⟨a, b, c, dd, e1, f, gg, hh, i, j, k, d, mk, n⟩)) ++ X) (gS _ X)
        have ql := fun X => s_wlook_of (H := H.set id (.own (wkC ⟨a, b, c, dd, e1, f, gg, hh, i, j, k, d, mk, n⟩)) ++ X) (p := cutU d 10 44) (l := w64 (j - 1)) (gS _ X)
        have qs := fun X => s_wstart_of (H := H.set id (.own (wkC ⟨a, b, c, dd, e1, f, gg, hh, i, j, k, l, mk, w64 (n + 1)⟩)) ++ X) (gS _ X)
        simp only [wkC] at qm qm2 ql qs
        cases mk
        · (try simp (config := { maxSteps := 10000000 }) only [go_sem, seval, lm, om]; repeat (simp (disch := omega) only [w64_d, ipos, ineg, dpos, dneg]; try simp (config := { maxSteps := 10000000 }) only [go_sem, seval, lm, om]))
          apply arun_straight
          (try simp (config := { maxSteps := 10000000 }) only [go_sem, seval, q1, h0]; repeat (simp (disch := omega) only [w64_d, ipos, ineg, dpos, dneg]; try simp (config := { maxSteps := 10000000 }) only [go_sem, seval, q1, h0]))
          by_cases k0 : kindU d j = 0
          · have et : tellW ⟨a, b, c, dd, e1, f, gg, hh, i, j, k, l, false, n⟩ d g = ⟨a, b, c, dd, e1, f, gg, hh, 2, j, k, d, false, n⟩ := by unfold tellW; simp [h0, k0]
            simp only [et]
            (try simp (config := { maxSteps := 10000000 }) only [go_sem, seval, gx, wkC, lm, sx, gS, sS, nl2, k0, s_pkind_eq]; repeat (simp (disch := omega) only [w64_d, ipos, ineg, dpos, dneg]; try simp (config := { maxSteps := 10000000 }) only [go_sem, seval, gx, wkC, lm, sx, gS, sS, nl2, k0, s_pkind_eq]))
            exact fin ⟨a, b, c, dd, e1, f, gg, hh, 2, j, k, d, false, n⟩ _
          by_cases k1 : kindU d j = 1
          · have et : tellW ⟨a, b, c, dd, e1, f, gg, hh, i, j, k, l, false, n⟩ d g = lookW ⟨a, b, c, dd, e1, f, gg, hh, i, j, k, d, false, n⟩ (cutU d 10 44) (w64 (j - 1)) := by unfold tellW; simp [h0, k1]
            simp only [et]
            (try simp (config := { maxSteps := 10000000 }) only [go_sem, seval, gx, wkC, lm, sx, gS, sS, nl2, k0, k1, s_pkind_eq, s_ppn_eq, ql]; repeat (simp (disch := omega) only [w64_d, ipos, ineg, dpos, dneg]; try simp (config := { maxSteps := 10000000 }) only [go_sem, seval, gx, wkC, lm, sx, gS, sS, nl2, k0, k1, s_pkind_eq, s_ppn_eq, ql]))
            refine ⟨?_, ?_⟩
            · repeat' apply And.intro
              all_goals first | decide | (exact fun _ => by decide)
            exact fin (lookW ⟨a, b, c, dd, e1, f, gg, hh, i, j, k, d, false, n⟩ (cutU d 10 44) (w64 (j - 1))) _
          cases hl : letsB d e1 f gg hh
          · have et : tellW ⟨a, b, c, dd, e1, f, gg, hh, i, j, k, l, false, n⟩ d g = ⟨a, b, c, dd, e1, f, gg, hh, 2, j, k, d, false, n⟩ := by unfold tellW; simp [h0, k0, k1, hl]
            simp only [et]
            (try simp (config := { maxSteps := 10000000 }) only [go_sem, seval, gx, wkC, lm, sx, gS, sS, nl2, k0, k1, hl, s_pkind_eq, s_plets_eq]; repeat (simp (disch := omega) only [w64_d, ipos, ineg, dpos, dneg]; try simp (config := { maxSteps := 10000000 }) only [go_sem, seval, gx, wkC, lm, sx, gS, sS, nl2, k0, k1, hl, s_pkind_eq, s_plets_eq]))
            exact fin ⟨a, b, c, dd, e1, f, gg, hh, 2, j, k, d, false, n⟩ _
          by_cases hmk : markU d e1 = d
          · have et : tellW ⟨a, b, c, dd, e1, f, gg, hh, i, j, k, l, false, n⟩ d g = ⟨a, b, c, dd, e1, f, gg, hh, 1, j, k, d, false, n⟩ := by unfold tellW; simp [h0, k0, k1, hl, hmk]
            simp only [et]
            (try simp (config := { maxSteps := 10000000 }) only [go_sem, seval, gx, wkC, lm, sx, gS, sS, nl2, k0, k1, hl, hmk, s_pkind_eq, s_plets_eq, qm2]; repeat (simp (disch := omega) only [w64_d, ipos, ineg, dpos, dneg]; try simp (config := { maxSteps := 10000000 }) only [go_sem, seval, gx, wkC, lm, sx, gS, sS, nl2, k0, k1, hl, hmk, s_pkind_eq, s_plets_eq, qm2]))
            exact fin ⟨a, b, c, dd, e1, f, gg, hh, 1, j, k, d, false, n⟩ _
          · have et : tellW ⟨a, b, c, dd, e1, f, gg, hh, i, j, k, l, false, n⟩ d g = ⟨a, b, c, dd, e1, f, gg, hh, i, j, k, d, true, n⟩ := by unfold tellW; simp [h0, k0, k1, hl, hmk]
            simp only [et]
            (try simp (config := { maxSteps := 10000000 }) only [go_sem, seval, gx, wkC, lm, sx, gS, sS, nl2, k0, k1, hl, hmk, s_pkind_eq, s_plets_eq, qm2]; repeat (simp (disch := omega) only [w64_d, ipos, ineg, dpos, dneg]; try simp (config := { maxSteps := 10000000 }) only [go_sem, seval, gx, wkC, lm, sx, gS, sS, nl2, k0, k1, hl, hmk, s_pkind_eq, s_plets_eq, qm2]))
            exact fin ⟨a, b, c, dd, e1, f, gg, hh, i, j, k, d, true, n⟩ _
        · cases g
          · have et : tellW ⟨a, b, c, dd, e1, f, gg, hh, i, j, k, l, true, n⟩ d false = startW ⟨a, b, c, dd, e1, f, gg, hh, i, j, k, l, true, w64 (n + 1)⟩ := by unfold tellW; simp [h0]
            simp only [et]
            (try simp (config := { maxSteps := 10000000 }) only [go_sem, seval, lm, om]; repeat (simp (disch := omega) only [w64_d, ipos, ineg, dpos, dneg]; try simp (config := { maxSteps := 10000000 }) only [go_sem, seval, lm, om]))
            apply arun_straight
            (try simp (config := { maxSteps := 10000000 }) only [go_sem, seval, q1, h0]; repeat (simp (disch := omega) only [w64_d, ipos, ineg, dpos, dneg]; try simp (config := { maxSteps := 10000000 }) only [go_sem, seval, q1, h0]))
            (try simp (config := { maxSteps := 10000000 }) only [go_sem, seval, gx, wkC, lm, sx, gS, sS, nl2, qs]; repeat (simp (disch := omega) only [w64_d, ipos, ineg, dpos, dneg]; try simp (config := { maxSteps := 10000000 }) only [go_sem, seval, gx, wkC, lm, sx, gS, sS, nl2, qs]))
            exact fin (startW ⟨a, b, c, dd, e1, f, gg, hh, i, j, k, l, true, w64 (n + 1)⟩) _
          · have et : tellW ⟨a, b, c, dd, e1, f, gg, hh, i, j, k, l, true, n⟩ d true = ⟨a, b, c, dd, e1, f, gg, hh, 1, j, k, markU l e1, false, n⟩ := by unfold tellW; simp [h0]
            simp only [et]
            (try simp (config := { maxSteps := 10000000 }) only [go_sem, seval, lm, om]; repeat (simp (disch := omega) only [w64_d, ipos, ineg, dpos, dneg]; try simp (config := { maxSteps := 10000000 }) only [go_sem, seval, lm, om]))
            refine arun_jump 0 _ (fun fr H' => Am.get fr 0 = .c (.p id 0 0) ∧ H' = H.set id (.own (wkC ⟨a, b, c, dd, e1, f, gg, hh, i, j, k, markU l e1, true, n⟩)) ++ [.own (.u d :: .b true :: m)]) rfl (by decide) ?_ ?_
            · (try simp (config := { maxSteps := 10000000 }) only [go_sem, seval, q1, h0]; repeat (simp (disch := omega) only [w64_d, ipos, ineg, dpos, dneg]; try simp (config := { maxSteps := 10000000 }) only [go_sem, seval, q1, h0]))
              (try simp (config := { maxSteps := 10000000 }) only [go_sem, seval, gx, wkC, lm, sx, gS, sS, nl2, qm]; repeat (simp (disch := omega) only [w64_d, ipos, ineg, dpos, dneg]; try simp (config := { maxSteps := 10000000 }) only [go_sem, seval, gx, wkC, lm, sx, gS, sS, nl2, qm]))
            · rintro fr H' ⟨hf, rfl⟩
              (try simp (config := { maxSteps := 10000000 }) only [go_sem, seval, hf, wkC, gS, sS]; repeat (simp (disch := omega) only [w64_d, ipos, ineg, dpos, dneg]; try simp (config := { maxSteps := 10000000 }) only [go_sem, seval, hf, wkC, gS, sS]))
              exact fin ⟨a, b, c, dd, e1, f, gg, hh, 1, j, k, markU l e1, false, n⟩ _
    · simp at h
  · simp at h

/-- a walk at its begin -/
def beginW (ln : Int) (ro va : BitVec 64) (ac pr : Int) (su mx : Bool) : Wst :=
  if signU va 39 = va then startW ⟨true, ln, ro, va, ac, pr, su, mx, 0, 0, 0#64, 0#64, false, 0⟩ else ⟨true, ln, ro, va, ac, pr, su, mx, 2, 0, 0#64, 0#64, false, 0⟩
def s_wbegin (args : List AV) : Option AV :=
  match args with
  | [.g [.i ln, .u ro, .u va, .i ac, .i pr, .b su, .b mx]] => some (.g (wkC (beginW ln ro va ac pr su mx)))
  | _ => none
theorem s_wbegin_eq {ln ro va ac pr su mx} : s_wbegin [.g [.i ln, .u ro, .u va, .i ac, .i pr, .b su, .b mx]] = some (.g (wkC (beginW ln ro va ac pr su mx))) := rfl
set_option maxRecDepth 100000 in
set_option maxHeartbeats 2000000 in
theorem ok_wbegin : PuOk Try.prog 11 s_wbegin := by
  refine pu_ok (tab := [(26, .pu s_vmay), (21, .fp s_wstart)]) hmix (TabOk.cons (e := .pu s_vmay) ok_vmay (TabOk.cons (e := .fp s_wstart) ok_wstart TabOk.nil)) Try.func11 rfl Try.results11 Try.ntmps11 (by kernel_rfl) (by kernel_rfl) ?_
  intro args v h
  unfold s_wbegin at h
  split at h
  · rename_i ln ro va ac pr su mx
    simp only [Option.some.injEq] at h; subst h
    refine ⟨by simp only [List.length_cons, List.length_nil]; decide, rfl, rfl, ?_⟩
    by_cases h : signU va 39 = va
    · have e : beginW ln ro va ac pr su mx = startW ⟨true, ln, ro, va, ac, pr, su, mx, 0, 0, 0#64, 0#64, false, 0⟩ := if_pos h
      have q := s_wstart_of (H := [.own [.i ln, .u ro, .u va, .i ac, .i pr, .b su, .b mx], .own (wkC ⟨false, 0, 0#64, 0#64, 0, 0, false, false, 0, 0, 0#64, 0#64, false, 0⟩), .own (wkC ⟨true, ln, ro, va, ac, pr, su, mx, 0, 0, 0#64, 0#64, false, 0⟩)]) (id := 2) rfl
      rw [e]
      simp only [wkC] at q
      (try simp (config := { maxSteps := 10000000 }) only [go_sem, seval, h, s_vmay_eq, q, wkC]; repeat (simp (disch := omega) only [w64_d, ipos, ineg, dpos, dneg]; try simp (config := { maxSteps := 10000000 }) only [go_sem, seval, h, s_vmay_eq, q, wkC]))
    · have e : beginW ln ro va ac pr su mx = ⟨true, ln, ro, va, ac, pr, su, mx, 2, 0, 0#64, 0#64, false, 0⟩ := if_neg h
      rw [e]
      (try simp (config := { maxSteps := 10000000 }) only [go_sem, seval, h, s_vmay_eq, wkC]; repeat (simp (disch := omega) only [w64_d, ipos, ineg, dpos, dneg]; try simp (config := { maxSteps := 10000000 }) only [go_sem, seval, h, s_vmay_eq, wkC]))
  · simp at h

end
end Go.Proofs.Ytanblagbkhpolaa
