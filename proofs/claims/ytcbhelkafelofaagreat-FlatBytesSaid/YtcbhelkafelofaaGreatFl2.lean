/- Layer 32: bytes as a number: the walk. -/
import Derived.Test.YtcbhelkafelofaaGreatFl1
namespace Go.Proofs.YtcbhelkafelofaaGreat
open Go.Am
set_option linter.unusedSimpArgs false
set_option linter.unusedVariables false
noncomputable section

theorem getF_cases (fr : Fr) (s : Nat) : Am.get fr s = .c .any ∨ ∃ p ∈ fr, p.1 = s ∧ Am.get fr s = p.2 := by
  induction fr with
  | nil => exact .inl rfl
  | cons a r ih =>
    obtain ⟨d, v⟩ := a
    by_cases h : d = s
    · exact .inr ⟨(d, v), by simp, h, by simp [Am.get, h]⟩
    · have e : Am.get ((d, v) :: r) s = Am.get r s := by simp [Am.get, h]
      rw [e]
      rcases ih with h1 | ⟨p, h1, h2, h3⟩
      · exact .inl h1
      · exact .inr ⟨p, by simp [h1], h2, h3⟩
theorem wkF {n : Nat} {fr fr' : Fr} {H : AH} (hf : ∀ p ∈ fr', Am.get fr p.1 = p.2) : Wk n fr H (fr', H) := fun ρ w tm h1 h2 =>
  ⟨ρ, fun s => by
    show VRel ρ (Am.get fr' s) (tm s)
    rcases getF_cases fr' s with e | ⟨p, hp, rfl, e⟩
    · rw [e]; exact trivial
    · rw [e, ← hf p hp]; exact h1 p.1, h2, fun i _ hi hL _ => ⟨i, hi, hL⟩, fun _ _ => rfl⟩
theorem stF_step {M : List Int} {r i : Nat} {b : Int} (v : BitVec 64) (hlt : r < M.length) (hi : i = M.length - 1 - r) (hb : M[i]? = some b) : (M.drop (M.length - (r + 1))).foldr stF v = ((M.drop (M.length - r)).foldr stF v <<< 8) ||| (BitVec.ofInt 64 b) := by
  have hi2 : i < M.length := by omega
  rw [show M.length - (r + 1) = i by omega, show M.length - r = i + 1 by omega, List.drop_eq_getElem_cons hi2]
  rw [List.getElem?_eq_getElem hi2] at hb
  simp only [Option.some.injEq] at hb
  rw [List.foldr_cons, hb]; rfl
set_option maxRecDepth 100000 in
set_option maxHeartbeats 2000000 in
theorem ok_fnum : FpOk Tryz.prog 30 (fun args H => (s_fnum args H).map fun v => (v, H)) := by
  refine fq_ok (s := s_fnum) (tab := []) hmix TabOk.nil Tryz.func30 rfl Tryz.results30 Tryz.ntmps30 (by kernel_rfl) (by kernel_rfl) ?_
  intro args H v h hargs hH
  unfold s_fnum at h
  split at h
  · rename_i x y
    split at h
    · rename_i L M hL hM
      split at h
      · rename_i hc
        obtain ⟨c1, c2⟩ := hc
        simp only [Option.some.injEq] at h
        subst h
        refine ⟨by simp only [List.length_cons, List.length_nil]; decide, rfl, ?_⟩
        rw [numF_app]
        have hx1 : (AV.c x).cells = some [x] := by rcases cutF_inv hL with ⟨rfl, _⟩ | ⟨i, o, rfl, _⟩ <;> rfl
        have hy1 : (AV.c y).cells = some [y] := by rcases cutF_inv hM with ⟨rfl, _⟩ | ⟨i, o, rfl, _⟩ <;> rfl
        have hx2 := hx1
        have hy2 := hy1
        simp only [AV.cells] at hx2 hy2
        (try simp (config := { maxSteps := 10000000 }) only [go_sem, seval, hx2, hy2]; repeat (simp (disch := omega) only [w64_d, ipos, ineg, dpos, dneg]; try simp (config := { maxSteps := 10000000 }) only [go_sem, seval, hx2, hy2]))
        refine arun_for 2 (fun k => ([(0, .c x), (1, .c y), (4, .c (.u 0#64)), (5, .c (.u (if k = 0 then 0#64 else if k = 1 then numF M else L.foldr stF (numF M)))), (11, .g [y, x]), (12, .c (.i k))], H)) (wkF (by simp [Am.get])) fun k hk => ?_
        by_cases k2 : k = 2
        · subst k2
          (try simp (config := { maxSteps := 10000000 }) only [go_sem, seval]; repeat (simp (disch := omega) only [w64_d, ipos, ineg, dpos, dneg]; try simp (config := { maxSteps := 10000000 }) only [go_sem, seval]))
          exact subH_refl _
        have xl : ∀ e, lenB (.sl e) (.c x) = some (.c (.i L.length)) := by rcases cutF_inv hL with ⟨rfl, rfl⟩ | ⟨i, o, rfl, _⟩ <;> intro e <;> rfl
        have yl : ∀ e, lenB (.sl e) (.c y) = some (.c (.i M.length)) := by rcases cutF_inv hM with ⟨rfl, rfl⟩ | ⟨i, o, rfl, _⟩ <;> intro e <;> rfl
        rcases (show k = 0 ∨ k = 1 by omega) with rfl | rfl
        · have w1 : w64 ((M.length : Int) - 1) = (M.length : Int) - 1 := w64_d (by omega) (by omega)
          (try simp (config := { maxSteps := 10000000 }) only [go_sem, seval, hx2, hy2, xl, yl, w1]; repeat (simp (disch := omega) only [w64_d, ipos, ineg, dpos, dneg]; try simp (config := { maxSteps := 10000000 }) only [go_sem, seval, hx2, hy2, xl, yl, w1]))
          refine arun_for M.length (fun r => ([(0, .c x), (1, .c y), (4, .c (.u 0#64)), (5, .c (.u ((M.drop (M.length - r)).foldr stF 0#64))), (7, .c y), (8, .c (.i ((M.length : Int) - 1 - r))), (11, .g [y, x]), (12, .c (.i 0))], H)) (wkF (by simp [Am.get])) fun r hr => ?_
          by_cases hlt : r < M.length
          rotate_left
          · obtain rfl : r = M.length := by omega
            have e0 : ((M.length : Int) - 1 - (M.length : Int)) = -1 := by omega
            have d0 : M.drop (M.length - M.length) = M := by rw [Nat.sub_self]; rfl
            (try simp (config := { maxSteps := 10000000 }) only [go_sem, seval, e0, d0, hx2, hy2, xl, yl]; repeat (simp (disch := omega) only [w64_d, ipos, ineg, dpos, dneg]; try simp (config := { maxSteps := 10000000 }) only [go_sem, seval, e0, d0, hx2, hy2, xl, yl]))
            exact ⟨1, by omega, by omega, wkF (by simp [Am.get, numF])⟩
          obtain ⟨i, hi⟩ : ∃ i, i = M.length - 1 - r := ⟨_, rfl⟩
          have e0 : ((M.length : Int) - 1 - (r : Int)) = (i : Int) := by omega
          have e1 : w64 ((i : Int) - 1) = (i : Int) - 1 := w64_d (by omega) (by omega)
          have k0 : (0 : Int) ≤ (i : Int) := by omega
          rcases cutF_inv hM with ⟨rfl, rfl⟩ | ⟨j, p, rfl, hp, ep⟩
          · simp at hlt
          have kI : ((i : Int) < (M.length : Int)) := by omega
          obtain ⟨b, hb⟩ : ∃ b, M[i]? = some b := ⟨_, List.getElem?_eq_getElem (by omega)⟩
          have b1 : (p + i + 1 ≤ (hg H j).cells.length) = True := eq_true (by omega)
          have b2 : (hg H j).cells.getD (p + i) .any = .k .u8 b := by
            have := congrArg (fun l => l.getD i .any) ep
            simp only [List.getD_eq_getElem?_getD, List.getElem?_take, List.getElem?_drop] at this ⊢
            rw [if_pos (by omega)] at this
            rw [this]
            have g := fm1 (f := e8F) (g := Sc.k .u8) (fun _ => rfl) hb
            simpa [List.getD_eq_getElem?_getD] using g
          (try simp (config := { maxSteps := 10000000 }) only [go_sem, seval, e0, e1, k0, kI, b1, b2, hx2, xl]; repeat (simp (disch := omega) only [w64_d, ipos, ineg, dpos, dneg]; try simp (config := { maxSteps := 10000000 }) only [go_sem, seval, e0, e1, k0, kI, b1, b2, hx2, xl]))
          have st := stF_step 0#64 hlt hi hb
          have e4 : (i : Int) - 1 = (M.length : Int) - 1 - ((r + 1 : Nat) : Int) := by omega
          rw [← st, e4]
          exact ⟨r + 1, by omega, by omega, wkF (by simp [Am.get])⟩
        · have w1 : w64 ((L.length : Int) - 1) = (L.length : Int) - 1 := w64_d (by omega) (by omega)
          (try simp (config := { maxSteps := 10000000 }) only [go_sem, seval, hx2, hy2, xl, yl, w1]; repeat (simp (disch := omega) only [w64_d, ipos, ineg, dpos, dneg]; try simp (config := { maxSteps := 10000000 }) only [go_sem, seval, hx2, hy2, xl, yl, w1]))
          refine arun_for L.length (fun r => ([(0, .c x), (1, .c y), (4, .c (.u 0#64)), (5, .c (.u ((L.drop (L.length - r)).foldr stF (numF M)))), (7, .c x), (8, .c (.i ((L.length : Int) - 1 - r))), (11, .g [y, x]), (12, .c (.i 1))], H)) (wkF (by simp [Am.get])) fun r hr => ?_
          by_cases hlt : r < L.length
          rotate_left
          · obtain rfl : r = L.length := by omega
            have e0 : ((L.length : Int) - 1 - (L.length : Int)) = -1 := by omega
            have d0 : L.drop (L.length - L.length) = L := by rw [Nat.sub_self]; rfl
            (try simp (config := { maxSteps := 10000000 }) only [go_sem, seval, e0, d0, hx2, hy2, xl, yl]; repeat (simp (disch := omega) only [w64_d, ipos, ineg, dpos, dneg]; try simp (config := { maxSteps := 10000000 }) only [go_sem, seval, e0, d0, hx2, hy2, xl, yl]))
            exact ⟨2, by omega, by omega, wkF (by simp [Am.get, numF])⟩
          obtain ⟨i, hi⟩ : ∃ i, i = L.length - 1 - r := ⟨_, rfl⟩
          have e0 : ((L.length : Int) - 1 - (r : Int)) = (i : Int) := by omega
          have e1 : w64 ((i : Int) - 1) = (i : Int) - 1 := w64_d (by omega) (by omega)
          have k0 : (0 : Int) ≤ (i : Int) := by omega
          rcases cutF_inv hL with ⟨rfl, rfl⟩ | ⟨j, p, rfl, hp, ep⟩
          · simp at hlt
          have kI : ((i : Int) < (L.length : Int)) := by omega
          obtain ⟨b, hb⟩ : ∃ b, L[i]? = some b := ⟨_, List.getElem?_eq_getElem (by omega)⟩
          have b1 : (p + i + 1 ≤ (hg H j).cells.length) = True := eq_true (by omega)
          have b2 : (hg H j).cells.getD (p + i) .any = .k .u8 b := by
            have := congrArg (fun l => l.getD i .any) ep
            simp only [List.getD_eq_getElem?_getD, List.getElem?_take, List.getElem?_drop] at this ⊢
            rw [if_pos (by omega)] at this
            rw [this]
            have g := fm1 (f := e8F) (g := Sc.k .u8) (fun _ => rfl) hb
            simpa [List.getD_eq_getElem?_getD] using g
          (try simp (config := { maxSteps := 10000000 }) only [go_sem, seval, e0, e1, k0, kI, b1, b2, hy2, yl]; repeat (simp (disch := omega) only [w64_d, ipos, ineg, dpos, dneg]; try simp (config := { maxSteps := 10000000 }) only [go_sem, seval, e0, e1, k0, kI, b1, b2, hy2, yl]))
          have st := stF_step (numF M) hlt hi hb
          have e4 : (i : Int) - 1 = (L.length : Int) - 1 - ((r + 1 : Nat) : Int) := by omega
          rw [← st, e4]
          exact ⟨r + 1, by omega, by omega, wkF (by simp [Am.get])⟩
      · simp at h
    · simp at h
  · simp at h
end
end Go.Proofs.YtcbhelkafelofaaGreat
