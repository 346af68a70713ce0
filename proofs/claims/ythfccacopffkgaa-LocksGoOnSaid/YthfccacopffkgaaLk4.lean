/- Layer 12: locks that one waits at, holds, takes and gives back: contracts. -/
import Derived.Test.YthfccacopffkgaaLk3
namespace Go.Proofs.Ythfccacopffkgaa
open Go.Am
set_option linter.unusedSimpArgs false
set_option linter.unusedVariables false
noncomputable section
set_option maxRecDepth 100000

section
variable {H : AH} {D : Ld}
/-! ### at which lock one waits -/
def waK (S : LS) (w : Int) : Option Nat := S.findIdx? fun y => decide (w ∈ y.2)
def waV (S : LS) (w : Int) : AV :=
  match waK S w with
  | some k => .t [.c (.i k), .c (.b true)]
  | none => .t [.c (.i 0), .c (.b false)]
theorem fd_rng (h : LI H D) {k : Nat} (hk : k < D.S.length) : D.S[k]? = some (enS (fdK D.es (k : Int))) := by
  have e := S_at h (a := (k : Int)) (by omega) (by rw [← S_lenI h]; omega)
  unfold atS at e
  rw [Int.toNat_natCast, List.getD_eq_getElem?_getD, List.getElem?_eq_getElem hk] at e
  rw [List.getElem?_eq_getElem hk, ← e]; rfl
def q_lwaits (args : List AV) (H : AH) (v : AV) : Prop := (∀ a, args = [.c .nilp, .c (.i a)] → v = .t [.c (.i 0), .c (.b false)]) ∧ ∀ D a, args = [.c (.p D.p 0 0), .c (.i a)] → LI H D → v = waV D.S a
def s_lwaits : List AV → AH → Option AV := frQ Try.prog [(37, .fq s_lcon)] 29 q_lwaits
set_option maxRecDepth 100000 in
set_option maxHeartbeats 2000000 in
theorem ok_lwaits : FpOk Try.prog 29 (fun args H => (s_lwaits args H).map fun v => (v, H)) := frQ_ok hmix (TabOk.cons (e := .fq s_lcon) ok_lcon TabOk.nil) Try.func29 rfl Try.results29 Try.ntmps29 (by kernel_rfl) (by kernel_rfl)
theorem s_lwaits_nil {a : Int} : s_lwaits [.c .nilp, .c (.i a)] H = some (.t [.c (.i 0), .c (.b false)]) := by
  have : ∃ v, s_lwaits [.c .nilp, .c (.i a)] H = some v ∧ q_lwaits [.c .nilp, .c (.i a)] H v := by
    unfold s_lwaits
    apply frQ_ex (v := .t [.c (.i 0), .c (.b false)]) Try.func29 rfl Try.results29 Try.ntmps29 (by simp only [List.length_cons, List.length_nil]; decide)
    · exact fun _ _ => rfl
    · intro _ _
      (try simp (config := { maxSteps := 10000000 }) only [go_sem, seval]; repeat (simp (disch := omega) only [w64_d, ipos, ineg, dpos, dneg]; try simp (config := { maxSteps := 10000000 }) only [go_sem, seval]))
      exact subH_refl _
    · exact ⟨fun _ _ => rfl, fun E k he hE => by simp at he⟩
  obtain ⟨v, h1, h2⟩ := this
  rw [h1, h2.1 a rfl]
theorem s_lwaits_eq (h : LI H D) {w : Int} : s_lwaits [.c (.p D.p 0 0), .c (.i w)] H = some (waV D.S w) := by
  have : ∃ v, s_lwaits [.c (.p D.p 0 0), .c (.i w)] H = some v ∧ q_lwaits [.c (.p D.p 0 0), .c (.i w)] H v := by
    have hp := h.hp
    have hm := h.hm
    have fA := fun a => findA_en (P := Try.prog) (kt := 3) (by kernel_rfl) a D.es 0
    have hn := S_lenI h
    have hn1 := h.n128
    unfold s_lwaits
    apply frQ_ex (v := waV D.S w) Try.func29 rfl Try.results29 Try.ntmps29 (by simp only [List.length_cons, List.length_nil]; decide)
    · intro _ _
      unfold waV
      split <;> rfl
    · intro ha hH
      (try simp (config := { maxSteps := 10000000 }) only [go_sem, seval, hp]; repeat (simp (disch := omega) only [w64_d, ipos, ineg, dpos, dneg]; try simp (config := { maxSteps := 10000000 }) only [go_sem, seval, hp]))
      have lid := h.lt (show D.p ∈ D.ids by simp [Ld.ids])
      rw [arun_loop]
      refine ⟨{k : Nat // k ≤ D.S.length ∧ ∀ j, j < k → ∀ y, D.S[j]? = some y → w ∉ y.2}, fun k => ([(0, .c (.p D.p 0 0)), (1, .c (.i w)), (13, .c (.i D.n)), (14, .c (.i k.1))], H), fun k => D.S.length - k.1, ⟨0, by omega, fun j hj => absurd hj (Nat.not_lt_zero _)⟩, ?_, ?_⟩
      · exact Wk.wk (by simp [lo]) (by simp [Am.get]) (by simp [AV.bel, Sc.bel, lid]) (subH_refl _) hH
      · rintro ⟨k, hk, hj⟩
        have k0 : (0 : Int) ≤ (k : Int) := by omega
        by_cases hlt : k < D.S.length
        rotate_left
        · obtain rfl : k = D.S.length := by omega
          have e : waK D.S w = none := by
            unfold waK
            rw [List.findIdx?_eq_none_iff]
            intro y hy
            obtain ⟨j, hjl, rfl⟩ := List.mem_iff_getElem.1 hy
            simpa using hj j hjl _ (List.getElem?_eq_getElem hjl)
          have kI : ¬ ((D.S.length : Int) < D.n) := by omega
          (try simp (config := { maxSteps := 10000000 }) only [go_sem, seval, kI, waV, e]; repeat (simp (disch := omega) only [w64_d, ipos, ineg, dpos, dneg]; try simp (config := { maxSteps := 10000000 }) only [go_sem, seval, kI, waV, e]))
          exact subH_refl _
        have kI : (k : Int) < D.n := by omega
        have hs := fd_rng h hlt
        have e1 : w64 ((k : Int) + 1) = ((k + 1 : Nat) : Int) := by rw [w64_d (by omega) (by omega)]; omega
        have fk := fA (k : Int)
        have go : w ∉ (enS (fdK D.es (k : Int))).2 → ∃ j : {k : Nat // k ≤ D.S.length ∧ ∀ j, j < k → ∀ y, D.S[j]? = some y → w ∉ y.2}, j.1 = k + 1 := fun hw => ⟨⟨k + 1, by omega, fun j hj' y hy => by
          rcases Nat.lt_succ_iff_lt_or_eq.1 hj' with h' | rfl
          · exact hj j h' y hy
          · rw [hs] at hy; simp only [Option.some.injEq] at hy; rw [← hy]; exact hw⟩, rfl⟩
        rcases h.find (k : Int) with ⟨f1, f2⟩ | ⟨A, e, B, f1, f2, f3, f4, f5⟩
        · rw [f2] at fk
          obtain ⟨j, hj1⟩ := go (by rw [f1]; simp [enS])
          (try simp (config := { maxSteps := 10000000 }) only [go_sem, seval, hp, hm, fk, kI, e1]; repeat (simp (disch := omega) only [w64_d, ipos, ineg, dpos, dneg]; try simp (config := { maxSteps := 10000000 }) only [go_sem, seval, hp, hm, fk, kI, e1]))
          refine ⟨j, by omega, ?_⟩
          rw [hj1]
          exact Wk.wk (by simp [lo]) (by simp [Am.get]) (by simp [AV.bel, Sc.bel, lid]) (subH_refl _) hH
        · rw [f5] at fk
          have hem := (fdK_some f3).1
          obtain ⟨hl, hx⟩ := h.he e hem
          have hcn := s_lcon_of (k := w) (isx_sl hx) (by have := h.qlen hem; omega)
          by_cases hw : w ∈ e.q
          · rw [decide_eq_true hw] at hcn
            have e : waK D.S w = some k := by
              unfold waK
              rw [List.findIdx?_eq_some_iff_getElem]
              refine ⟨hlt, ?_, fun j hjl => ?_⟩
              · rw [List.getElem?_eq_getElem hlt, Option.some.injEq] at hs
                rw [hs, f3]; exact decide_eq_true (show w ∈ (enS (some e)).2 from hw)
              · have := hj j hjl _ (List.getElem?_eq_getElem (by omega))
                simpa using this
            (try simp (config := { maxSteps := 10000000 }) only [go_sem, seval, hp, hm, fk, kI, hl, hcn, waV, e]; repeat (simp (disch := omega) only [w64_d, ipos, ineg, dpos, dneg]; try simp (config := { maxSteps := 10000000 }) only [go_sem, seval, hp, hm, fk, kI, hl, hcn, waV, e]))
            exact subH_refl _
          · rw [decide_eq_false hw] at hcn
            obtain ⟨j, hj1⟩ := go (by rw [f3]; exact hw)
            (try simp (config := { maxSteps := 10000000 }) only [go_sem, seval, hp, hm, fk, kI, hl, hcn, e1]; repeat (simp (disch := omega) only [w64_d, ipos, ineg, dpos, dneg]; try simp (config := { maxSteps := 10000000 }) only [go_sem, seval, hp, hm, fk, kI, hl, hcn, e1]))
            refine ⟨j, by omega, ?_⟩
            rw [hj1]
            exact Wk.wk (by simp [lo]) (by simp [Am.get]) (by simp [AV.bel, Sc.bel, lid]) (subH_refl _) hH
    · refine ⟨fun _ he => by simp at he, fun E k he hE => ?_⟩
      simp only [List.cons.injEq, AV.c.injEq, Sc.p.injEq, Sc.i.injEq, and_true] at he
      obtain ⟨e1, rfl⟩ := he
      rw [h.uniq hE e1]
  obtain ⟨v, h1, h2⟩ := this
  rw [h1, h2.2 D w rfl h]
/-! ### the locks that one holds -/
def heN (S : LS) (w : Int) : Nat → List Int
  | 0 => []
  | k + 1 => if 0 ≤ (atS S k).1 ∧ (atS S k).1 = w then heN S w k ++ [(k : Int)] else heN S w k
def heS (S : LS) (w : Int) : List Int := heN S w S.length
theorem heN_len {S : LS} {w : Int} : ∀ k, (heN S w k).length ≤ k
  | 0 => Nat.le_refl _
  | k + 1 => by
    have := heN_len (S := S) (w := w) k
    unfold heN
    split
    · simp; omega
    · omega
def q_lheld (args : List AV) (H : AH) (v : AV) (H1 : AH) : Prop := (∀ a, args = [.c .nilp, .c (.i a)] → v = .c .nils ∧ H1 = H) ∧ ∀ D w, args = [.c (.p D.p 0 0), .c (.i w)] → LI H D → v = .c (.sl H.length 0 (heS D.S w).length (heS D.S w).length) ∧ H1 = H ++ [.vec 1 ((heS D.S w).flatMap encI)]
def s_lheld : List AV → AH → Option (AV × AH) := frS Try.prog [] 14 q_lheld
set_option maxRecDepth 100000 in
set_option maxHeartbeats 2000000 in
theorem ok_lheld : FpOk Try.prog 14 s_lheld := frS_ok hmix TabOk.nil Try.func14 rfl Try.results14 Try.ntmps14 (by kernel_rfl) (by kernel_rfl)
theorem s_lheld_nil {a : Int} : s_lheld [.c .nilp, .c (.i a)] H = some (.c .nils, H) := by
  have : ∃ v H1, s_lheld [.c .nilp, .c (.i a)] H = some (v, H1) ∧ H.length ≤ H1.length ∧ q_lheld [.c .nilp, .c (.i a)] H v H1 := by
    unfold s_lheld
    apply frS_ex (v := .c .nils) Try.func14 rfl Try.results14 Try.ntmps14 (by simp only [List.length_cons, List.length_nil]; decide)
    · intro _ _
      (try simp (config := { maxSteps := 10000000 }) only [go_sem, seval]; repeat (simp (disch := omega) only [w64_d, ipos, ineg, dpos, dneg]; try simp (config := { maxSteps := 10000000 }) only [go_sem, seval]))
      exact fin_same
    · exact Nat.le_refl _
    · exact ⟨fun _ _ => ⟨rfl, rfl⟩, fun E k he hE => by simp at he⟩
  obtain ⟨v, H1, h1, _, h2⟩ := this
  obtain ⟨rfl, rfl⟩ := h2.1 a rfl
  exact h1
theorem s_lheld_eq (h : LI H D) (w : Int) : s_lheld [.c (.p D.p 0 0), .c (.i w)] H = some (.c (.sl H.length 0 (heS D.S w).length (heS D.S w).length), H ++ [.vec 1 ((heS D.S w).flatMap encI)]) := by
  have : ∃ v H1, s_lheld [.c (.p D.p 0 0), .c (.i w)] H = some (v, H1) ∧ H.length ≤ H1.length ∧ q_lheld [.c (.p D.p 0 0), .c (.i w)] H v H1 := by
    have hp := fun X => (h.app X).hp
    have hm := fun X => (h.app X).hm
    have fA := fun a => findA_en (P := Try.prog) (kt := 3) (by kernel_rfl) a D.es 0
    have hn := S_lenI h
    have hn1 := h.n128
    have lid := h.lt (show D.p ∈ D.ids by simp [Ld.ids])
    have hp0 := h.hp
    unfold s_lheld
    apply frS_ex (v := .c (.sl H.length 0 (heS D.S w).length (heS D.S w).length)) (H1 := H ++ [.vec 1 ((heS D.S w).flatMap encI)]) Try.func14 rfl Try.results14 Try.ntmps14 (by simp only [List.length_cons, List.length_nil]; decide)
    · intro ha hH
      have bb : ∀ L : List Int, belH (H ++ [.vec 1 (L.flatMap encI)]) = true := fun L => belH_app hH (by simp only [List.mem_cons, List.not_mem_nil, or_false, forall_eq]; rw [encI_gI]; exact map_bel gI_num _ _)
      (try simp (config := { maxSteps := 10000000 }) only [go_sem, seval, hp0]; repeat (simp (disch := omega) only [w64_d, ipos, ineg, dpos, dneg]; try simp (config := { maxSteps := 10000000 }) only [go_sem, seval, hp0]))
      refine arun_for D.S.length (fun k => ([(0, .c (.p D.p 0 0)), (1, .c (.i w)), (5, .c (.sl H.length 0 (heN D.S w k).length (heN D.S w k).length)), (14, .c (.i D.n)), (15, .c (.i k))], H ++ [.vec 1 ((heN D.S w k).flatMap encI)])) ?_ fun k hk => ?_
      · refine Wk.trans (Wk.nil 5 1 (by decide) rfl (by simp [lo])) (Wk.wk (by simp [lo]) (by simp [Am.get, heN]) (by simp [AV.bel, Sc.bel]; omega) ?_ (bb _))
        exact subH_refl _
      · have k0 : (0 : Int) ≤ (k : Int) := by omega
        have wl := heN_len (S := D.S) (w := w) k
        have eL : ((heN D.S w k).flatMap encI).length = (heN D.S w k).length := by rw [fm_len encI_l, Nat.mul_one]
        by_cases hlt : k < D.S.length
        rotate_left
        · obtain rfl : k = D.S.length := by omega
          have kI : ¬ ((D.S.length : Int) < D.n) := by omega
          (try simp (config := { maxSteps := 10000000 }) only [go_sem, seval, kI]; repeat (simp (disch := omega) only [w64_d, ipos, ineg, dpos, dneg]; try simp (config := { maxSteps := 10000000 }) only [go_sem, seval, kI]))
          exact fin_same
        have kI : (k : Int) < D.n := by omega
        have ks : heN D.S w (k + 1) = if 0 ≤ (atS D.S k).1 ∧ (atS D.S k).1 = w then heN D.S w k ++ [(k : Int)] else heN D.S w k := rfl
        have e1 : w64 ((k : Int) + 1) = ((k + 1 : Nat) : Int) := by rw [w64_d (by omega) (by omega)]; omega
        have k5 : ((heN D.S w k).length + 1) * 8 ≤ 1099511627776 := by omega
        have fk := fA (k : Int)
        rcases h.find (k : Int) with ⟨f1, f2⟩ | ⟨A, e, B, f1, f2, f3, f4, f5⟩
        · rw [f2] at fk
          rw [fd_free h k0 kI f1, if_neg (by simp)] at ks
          (try simp (config := { maxSteps := 10000000 }) only [go_sem, seval, hp, hm, fk, kI, e1]; repeat (simp (disch := omega) only [w64_d, ipos, ineg, dpos, dneg]; try simp (config := { maxSteps := 10000000 }) only [go_sem, seval, hp, hm, fk, kI, e1]))
          refine ⟨k + 1, by omega, by omega, ?_⟩
          rw [ks]
          exact Wk.wk (by simp [lo]) (by simp [Am.get]) (by simp [AV.bel, Sc.bel]; omega) (subH_refl _) (bb _)
        · rw [f5] at fk
          have hem := (fdK_some f3).1
          obtain ⟨_, _, hat, h0, _⟩ := fd_at h f3
          have hl := fun X => ((h.app X).he e hem).1
          by_cases hw : e.h = w
          · rw [hat, if_pos ⟨h0, hw⟩] at ks
            have hw' := eq_true hw
            (try simp (config := { maxSteps := 10000000 }) only [go_sem, seval, hp, hm, fk, kI, hl, hw', e1, k5, eL]; repeat (simp (disch := omega) only [w64_d, ipos, ineg, dpos, dneg]; try simp (config := { maxSteps := 10000000 }) only [go_sem, seval, hp, hm, fk, kI, hl, hw', e1, k5, eL]))
            refine ⟨k + 1, by omega, by omega, ?_⟩
            rw [ks]
            exact Wk.wk (by simp [lo]) (by simp [Am.get]) (by simp [AV.bel, Sc.bel]; omega) (subH_pre _ ⟨.inr (by rw [fm_app]; rfl), trivial⟩) (bb _)
          · rw [hat, if_neg (fun c => hw c.2)] at ks
            (try simp (config := { maxSteps := 10000000 }) only [go_sem, seval, hp, hm, fk, kI, hl, hw, e1]; repeat (simp (disch := omega) only [w64_d, ipos, ineg, dpos, dneg]; try simp (config := { maxSteps := 10000000 }) only [go_sem, seval, hp, hm, fk, kI, hl, hw, e1]))
            refine ⟨k + 1, by omega, by omega, ?_⟩
            rw [ks]
            exact Wk.wk (by simp [lo]) (by simp [Am.get]) (by simp [AV.bel, Sc.bel]; omega) (subH_refl _) (bb _)
    · simp
    · refine ⟨fun _ he => by simp at he, fun E k he hE => ?_⟩
      simp only [List.cons.injEq, AV.c.injEq, Sc.p.injEq, Sc.i.injEq, and_true] at he
      obtain ⟨e1, rfl⟩ := he
      rw [h.uniq hE e1]
      exact ⟨rfl, rfl⟩
  obtain ⟨v, H1, h1, _, h2⟩ := this
  obtain ⟨rfl, rfl⟩ := h2.2 D w rfl h
  exact h1
end
end
end Go.Proofs.Ythfccacopffkgaa
