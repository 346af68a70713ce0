/- Layer 17: bytes that are compared; the law UartKeeps. -/
import Derived.Test.YtfddaaplnnlfoaaU8
namespace Go.Proofs.Ytfddaaplnnlfoaa
open Go.Am
set_option linter.unusedSimpArgs false
set_option linter.unusedVariables false
noncomputable section

theorem get_cases (fr : Fr) (s : Nat) : Am.get fr s = .c .any ∨ ∃ p ∈ fr, p.1 = s ∧ Am.get fr s = p.2 := by
  induction fr with
  | nil => exact .inl rfl
  | cons a r ih =>
    obtain ⟨d, v⟩ := a
    by_cases h : d = s
    · exact .inr ⟨(d, v), by simp, h, by simp [Am.get, h]⟩
    · have e : Am.get ((d, v) :: r) s = Am.get r s := by simp [Am.get, h]
      rw [e]
      rcases ih with h1 | ⟨p, h1, h2, h3⟩
      · exact .inl h1
      · exact .inr ⟨p, by simp [h1], h2, h3⟩
theorem Wk.fr {n : Nat} {fr fr' : Fr} {H : AH} (hf : ∀ p ∈ fr', Am.get fr p.1 = p.2) : Wk n fr H (fr', H) := fun ρ w tm h1 h2 =>
  ⟨ρ, fun s => by
    show VRel ρ (Am.get fr' s) (tm s)
    rcases get_cases fr' s with e | ⟨p, hp, rfl, e⟩
    · rw [e]; exact trivial
    · rw [e, ← hf p hp]; exact h1 p.1, h2, fun i _ hi hL _ => ⟨i, hi, hL⟩, fun _ _ => rfl⟩
theorem subH_of {H K : AH} (hl : H.length ≤ K.length) (h : ∀ k, k < H.length → hg K k = hg H k) : subH H K := by
  induction H generalizing K with
  | nil => exact trivial
  | cons o r ih =>
    cases K with
    | nil => simp at hl
    | cons o' r' =>
      refine ⟨.inr ?_, ih (by simpa using hl) fun k hk => ?_⟩
      · have := h 0 (by simp); simpa [hg] using this.symm
      · have := h (k + 1) (by simpa using hk); simpa [hg] using this
def s_ubytes (args : List AV) (H : AH) : Option AV :=
  match args with
  | [.c x, .c y] =>
    match slD 1 dc8 H x, slD 1 dc8 H y with
    | some L, some M => if L.length ≤ 1000000 ∧ M.length ≤ 1000000 then some (.c (.b (decide (L = M)))) else none
    | _, _ => none
  | _ => none
theorem s_ubytes_eq {x y : Sc} {H : AH} {L M : List Int} (h1 : slD 1 dc8 H x = some L) (h2 : slD 1 dc8 H y = some M) (h3 : L.length ≤ 1000000) (h4 : M.length ≤ 1000000) : s_ubytes [.c x, .c y] H = some (.c (.b (decide (L = M)))) := by
  simp only [s_ubytes, h1, h2]; rw [if_pos ⟨h3, h4⟩]
set_option maxRecDepth 100000 in
set_option maxHeartbeats 2000000 in
theorem ok_ubytes : FpOk Try.prog 56 (fun args H => (s_ubytes args H).map fun v => (v, H)) := by
  refine fq_ok (s := s_ubytes) (tab := []) hmix TabOk.nil Try.func56 rfl Try.results56 Try.ntmps56 (by kernel_rfl) (by kernel_rfl) ?_
  intro args H v h hargs hH
  unfold s_ubytes at h
  split at h
  · rename_i x y
    split at h
    · rename_i L M hL hM
      split at h
      · rename_i hc
        obtain ⟨c1, c2⟩ := hc
        simp only [Option.some.injEq] at h
        subst h
        refine ⟨by simp only [List.length_cons, List.length_nil]; decide, rfl, ?_⟩
        by_cases hlen : L.length = M.length
        rotate_left
        · have ne : decide (L = M) = false := decide_eq_false fun e => hlen (by rw [e])
          rw [ne]
          have hi : ((L.length : Int) = (M.length : Int)) = False := eq_false (by omega)
          rcases slD_inv dc8_d hL with ⟨rfl, rfl⟩ | ⟨i, v, rfl, hv, hcs⟩ <;> rcases slD_inv dc8_d hM with ⟨rfl, rfl⟩ | ⟨j, w, rfl, hw, hcs2⟩
          · exact absurd rfl hlen
          · have hi2 : ((0 : Int) = (M.length : Int)) = False := eq_false (by simp only [List.length_nil] at hlen; omega)
            (try simp (config := { maxSteps := 10000000 }) only [go_sem, seval, hi2]; repeat (simp (disch := omega) only [w64_d, ipos, ineg, dpos, dneg]; try simp (config := { maxSteps := 10000000 }) only [go_sem, seval, hi2]))
            first | exact subH_refl _ | exact ⟨rfl, subH_refl _⟩
          · have hi2 : ((L.length : Int) = 0) = False := eq_false (by simp only [List.length_nil] at hlen; omega)
            (try simp (config := { maxSteps := 10000000 }) only [go_sem, seval, hi2]; repeat (simp (disch := omega) only [w64_d, ipos, ineg, dpos, dneg]; try simp (config := { maxSteps := 10000000 }) only [go_sem, seval, hi2]))
            first | exact subH_refl _ | exact ⟨rfl, subH_refl _⟩
          · (try simp (config := { maxSteps := 10000000 }) only [go_sem, seval, hi]; repeat (simp (disch := omega) only [w64_d, ipos, ineg, dpos, dneg]; try simp (config := { maxSteps := 10000000 }) only [go_sem, seval, hi]))
            first | exact subH_refl _ | exact ⟨rfl, subH_refl _⟩
        · have hi : ((L.length : Int) = (M.length : Int)) = True := eq_true (by omega)
          rcases Nat.eq_zero_or_pos L.length with h0 | hpos
          · have l0 := List.eq_nil_of_length_eq_zero h0
            have m0 := List.eq_nil_of_length_eq_zero (hlen ▸ h0)
            subst l0
            subst m0
            rcases slD_inv dc8_d hL with ⟨rfl, _⟩ | ⟨i, v, rfl, hv, hcs⟩ <;> rcases slD_inv dc8_d hM with ⟨rfl, _⟩ | ⟨j, w, rfl, hw, hcs2⟩
            · try simp only [List.length_nil] at *
              (try simp (config := { maxSteps := 10000000 }) only [go_sem, seval]; repeat (simp (disch := omega) only [w64_d, ipos, ineg, dpos, dneg]; try simp (config := { maxSteps := 10000000 }) only [go_sem, seval]))
              refine arun_for 0 (fun k => ([(0, .c .nils), (1, .c .nils), (4, .c (.b false)), (5, .c (.i 0))], H)) (Wk.fr (by simp [Am.get])) fun k hk => ?_
              (try simp (config := { maxSteps := 10000000 }) only [go_sem, seval]; repeat (simp (disch := omega) only [w64_d, ipos, ineg, dpos, dneg]; try simp (config := { maxSteps := 10000000 }) only [go_sem, seval]))
              first | exact subH_refl _ | exact ⟨rfl, subH_refl _⟩
            · try simp only [List.length_nil] at *
              (try simp (config := { maxSteps := 10000000 }) only [go_sem, seval]; repeat (simp (disch := omega) only [w64_d, ipos, ineg, dpos, dneg]; try simp (config := { maxSteps := 10000000 }) only [go_sem, seval]))
              refine arun_for 0 (fun k => ([(0, .c .nils), (1, .c (.sl j 0 w 0)), (4, .c (.b false)), (5, .c (.i 0))], H)) (Wk.fr (by simp [Am.get])) fun k hk => ?_
              (try simp (config := { maxSteps := 10000000 }) only [go_sem, seval]; repeat (simp (disch := omega) only [w64_d, ipos, ineg, dpos, dneg]; try simp (config := { maxSteps := 10000000 }) only [go_sem, seval]))
              first | exact subH_refl _ | exact ⟨rfl, subH_refl _⟩
            · try simp only [List.length_nil] at *
              (try simp (config := { maxSteps := 10000000 }) only [go_sem, seval]; repeat (simp (disch := omega) only [w64_d, ipos, ineg, dpos, dneg]; try simp (config := { maxSteps := 10000000 }) only [go_sem, seval]))
              refine arun_for 0 (fun k => ([(0, .c (.sl i 0 v 0)), (1, .c .nils), (4, .c (.b false)), (5, .c (.i 0))], H)) (Wk.fr (by simp [Am.get])) fun k hk => ?_
              (try simp (config := { maxSteps := 10000000 }) only [go_sem, seval]; repeat (simp (disch := omega) only [w64_d, ipos, ineg, dpos, dneg]; try simp (config := { maxSteps := 10000000 }) only [go_sem, seval]))
              first | exact subH_refl _ | exact ⟨rfl, subH_refl _⟩
            · try simp only [List.length_nil] at *
              (try simp (config := { maxSteps := 10000000 }) only [go_sem, seval]; repeat (simp (disch := omega) only [w64_d, ipos, ineg, dpos, dneg]; try simp (config := { maxSteps := 10000000 }) only [go_sem, seval]))
              refine arun_for 0 (fun k => ([(0, .c (.sl i 0 v 0)), (1, .c (.sl j 0 w 0)), (4, .c (.b false)), (5, .c (.i 0))], H)) (Wk.fr (by simp [Am.get])) fun k hk => ?_
              (try simp (config := { maxSteps := 10000000 }) only [go_sem, seval]; repeat (simp (disch := omega) only [w64_d, ipos, ineg, dpos, dneg]; try simp (config := { maxSteps := 10000000 }) only [go_sem, seval]))
              first | exact subH_refl _ | exact ⟨rfl, subH_refl _⟩
          · rcases slD_inv dc8_d hL with ⟨rfl, rfl⟩ | ⟨i, v, rfl, hv, hcs⟩
            · simp at hpos
            rcases slD_inv dc8_d hM with ⟨rfl, rfl⟩ | ⟨j, w, rfl, hw, hcs2⟩
            · rw [hlen] at hpos; simp at hpos
            (try simp (config := { maxSteps := 10000000 }) only [go_sem, seval, hi]; repeat (simp (disch := omega) only [w64_d, ipos, ineg, dpos, dneg]; try simp (config := { maxSteps := 10000000 }) only [go_sem, seval, hi]))
            rw [arun_loop]
            refine ⟨{k : Nat // k ≤ L.length ∧ L.take k = M.take k}, fun k => ([(0, .c (.sl i 0 v L.length)), (1, .c (.sl j 0 w M.length)), (4, .c (.b false)), (5, .c (.i k.1))], H), fun k => L.length - k.1, ⟨0, by omega, rfl⟩, Wk.fr (by simp [Am.get]), ?_⟩
            rintro ⟨k, hk, hpre⟩
            by_cases hlt : k < L.length
            · have e1 : w64 ((k : Int) + 1) = ((k + 1 : Nat) : Int) := by rw [w64_of (by omega)]; omega
              obtain ⟨a, ha⟩ : ∃ a, L[k]? = some a := ⟨_, List.getElem?_eq_getElem hlt⟩
              obtain ⟨b, hb⟩ : ∃ b, M[k]? = some b := ⟨_, List.getElem?_eq_getElem (by omega)⟩
              have g1 := fm_le enc8_l (L := L) (k := k) hlt
              have g2 := fm_le enc8_l (L := M) (k := k) (by omega)
              have g3 := fm1 (f := enc8) (g := Sc.k .u8) (fun _ => rfl) ha
              have g4 := fm1 (f := enc8) (g := Sc.k .u8) (fun _ => rfl) hb
              rw [← hcs] at g1 g3
              rw [← hcs2] at g2 g4
              rw [Nat.mul_one] at g1 g2
              have hlt2 : (k : Int) < (L.length : Int) := by omega
              have hlt3 : (k : Int) < (M.length : Int) := by omega
              have k0 : (0 : Int) ≤ (k : Int) := by omega
              by_cases hab : a = b
              · subst hab
                (try simp (config := { maxSteps := 10000000 }) only [go_sem, seval, e1, g1, g2, g3, g4, hlt2, hlt3, k0, hv.symm, hw.symm]; repeat (simp (disch := omega) only [w64_d, ipos, ineg, dpos, dneg]; try simp (config := { maxSteps := 10000000 }) only [go_sem, seval, e1, g1, g2, g3, g4, hlt2, hlt3, k0, hv.symm, hw.symm]))
                refine ⟨⟨k + 1, by omega, ?_⟩, by simp only; omega, Wk.fr (by simp [Am.get])⟩
                rw [List.take_add_one, List.take_add_one, hpre, ha, hb]
              · have ne : decide (L = M) = false := decide_eq_false fun e => hab (by rw [e, hb] at ha; simpa using ha.symm)
                (try simp (config := { maxSteps := 10000000 }) only [go_sem, seval, e1, g1, g2, g3, g4, hlt2, hlt3, k0, hv.symm, hw.symm, hab, ne]; repeat (simp (disch := omega) only [w64_d, ipos, ineg, dpos, dneg]; try simp (config := { maxSteps := 10000000 }) only [go_sem, seval, e1, g1, g2, g3, g4, hlt2, hlt3, k0, hv.symm, hw.symm, hab, ne]))
                first | exact subH_refl _ | exact ⟨rfl, subH_refl _⟩
            · obtain rfl : k = L.length := by omega
              have ee : decide (L = M) = true := by
                rw [List.take_length] at hpre
                rw [decide_eq_true_eq]
                rw [hpre]; exact List.take_of_length_le (by omega)
              (try simp (config := { maxSteps := 10000000 }) only [go_sem, seval, hlt, ee]; repeat (simp (disch := omega) only [w64_d, ipos, ineg, dpos, dneg]; try simp (config := { maxSteps := 10000000 }) only [go_sem, seval, hlt, ee]))
              first | exact subH_refl _ | exact ⟨rfl, subH_refl _⟩
      · simp at h
    · simp at h
  · simp at h
end
end Go.Proofs.Ytfddaaplnnlfoaa
