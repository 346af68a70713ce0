/- Layer 12: the document's locks, given back and looked at: contracts. -/
import Derived.Test.YthfccacopffkgaaLkG
namespace Go.Proofs.Ythfccacopffkgaa
open Go.Am
set_option linter.unusedSimpArgs false
set_option linter.unusedVariables false
noncomputable section
set_option maxRecDepth 100000

section
variable {H : AH}
def q_rldrop (args : List AV) (H : AH) (v : AV) (H1 : AH) : Prop := ∀ id Y w a, args = [xV id Y, .c (.i w), .c (.i a)] → XI H id Y → OkQ (lyS Y) → v = .c (.b (drB (lyS Y) w a)) ∧ XStep H H1 id Y (drS (lyS Y) w a)
def s_rldrop : List AV → AH → Option (AV × AH) := frS Try.prog [(39, .fq s_rlright)] 17 q_rldrop
set_option maxRecDepth 100000 in
set_option maxHeartbeats 2000000 in
theorem ok_rldrop : FpOk Try.prog 17 s_rldrop := frS_ok hmix (TabOk.cons (e := .fq s_rlright) ok_rlright TabOk.nil) Try.func17 rfl Try.results17 Try.ntmps17 (by kernel_rfl) (by kernel_rfl)
theorem s_rldrop_ex {id : Nat} {Y : List Ly} (h : XI H id Y) (hQ : OkQ (lyS Y)) (w a : Int) : ∃ H1, s_rldrop [xV id Y, .c (.i w), .c (.i a)] H = some (.c (.b (drB (lyS Y) w a)), H1) ∧ H.length ≤ H1.length ∧ XStep H H1 id Y (drS (lyS Y) w a) := by
  have : ∃ v H1, s_rldrop [xV id Y, .c (.i w), .c (.i a)] H = some (v, H1) ∧ H.length ≤ H1.length ∧ q_rldrop [xV id Y, .c (.i w), .c (.i a)] H v H1 := by
    have g := s_rlright_eq (H := H) (id := id) (Y := Y) (w := w) (a := a)
    have post : ∀ {v H1}, v = .c (.b (drB (lyS Y) w a)) → XStep H H1 id Y (drS (lyS Y) w a) → q_rldrop [xV id Y, .c (.i w), .c (.i a)] H v H1 := by
      intro v H1 h1 h2 id' Z w' a' he hZ _
      simp only [xV, List.cons.injEq, AV.c.injEq, Sc.sl.injEq, Sc.i.injEq, and_true] at he
      obtain ⟨⟨rfl, _⟩, rfl, rfl⟩ := he
      rw [← h.uniq hZ]
      exact ⟨h1, h2⟩
    unfold xV at g ⊢
    have ho := h.o
    have hr := ly_row h
    rw [ho] at hr
    simp only [AObj.row] at hr
    have lid := h.lt
    have no : drB (lyS Y) w a = false → XStep H H id Y (drS (lyS Y) w a) := fun hb => ⟨Y, h, XKp.refl, by unfold drS; rw [hb]; rfl⟩
    cases hrg : rgtS (lyS Y) w a with
    | false =>
      rw [hrg] at g
      have nb : drB (lyS Y) w a = false := by unfold drB; rw [hrg]; rfl
      unfold s_rldrop
      apply frS_ex (v := .c (.b false)) Try.func17 rfl Try.results17 Try.ntmps17 (by simp only [List.length_cons, List.length_nil]; decide)
      · intro _ _
        (try simp (config := { maxSteps := 10000000 }) only [go_sem, seval, g]; repeat (simp (disch := omega) only [w64_d, ipos, ineg, dpos, dneg]; try simp (config := { maxSteps := 10000000 }) only [go_sem, seval, g]))
        exact fin_same
      · exact Nat.le_refl _
      · exact post (by rw [nb]) (no nb)
    | true =>
      rw [hrg] at g
      obtain ⟨w0, w8, a0, an⟩ := rgt_inv hrg
      rw [lyS_len] at an
      obtain ⟨k, rfl⟩ : ∃ k : Nat, a = k := ⟨a.toNat, by omega⟩
      have hk : k < Y.length := by omega
      obtain ⟨y, hy⟩ : ∃ y, Y[k]? = some y := ⟨_, List.getElem?_eq_getElem hk⟩
      have hat := lyS_at hy
      have hym := List.mem_of_getElem? hy
      obtain ⟨c0, c1, cl⟩ := ly_cell hy
      have k1 : k * 2 + 1 ≤ (Y.flatMap lyC).length := by omega
      have k2 : k * 2 + 1 + 1 ≤ (Y.flatMap lyC).length := by omega
      have hx := h.q y hym
      have xl := slP_len (isx_sp hx)
      have xs := slP_isS (isx_sp hx)
      have ql : y.q.length ≤ 100000 := hQ _ (lyS_mem hym)
      by_cases e1 : y.h = w
      · have e1' := eq_true e1
        have yb : drB (lyS Y) w k = true := by unfold drB; rw [hrg, hat]; simp [e1]
        have ys : drS (lyS Y) w k = match y.q with | [] => (lyS Y).set k (-1, []) | x :: r => (lyS Y).set k (x, r) := by
          unfold drS; rw [yb, if_pos rfl, hat]; rfl
        cases hq : y.q with
        | nil =>
          rw [hq] at xl
          have r1 : wr (Y.flatMap lyC) (k * 2) [.i (-1)] = (Y.flatMap lyC).set (k * 2) (.i (-1)) := wr_one (by omega)
          have r2 : ((Y.flatMap lyC).set (k * 2) (.i (-1))).set (k * 2 + 1) y.x = (Y.flatMap lyC).set (k * 2) (.i (-1)) := set_sameD (by rw [List.length_set]; omega) (by rw [List.getD_eq_getElem?_getD, List.getElem?_set_ne (by omega), ← List.getD_eq_getElem?_getD, c1])
          obtain ⟨m1, m2, m3⟩ := h.repl (K := H.set id (.vec 2 ((Y.flatMap lyC).set (k * 2) (.i (-1))))) (z := { y with h := -1 }) hy (by simp) (fun i hi hne => hg_set_ne' (fun c => hne c.symm)) (by rw [hg_set_same lid]; show _ = AObj.vec 2 (((Y.flatMap lyC).set (k * 2) (.i (-1))).set (k * 2 + 1) y.x); rw [r2])
            (isx_frame hx fun i hi => hg_set_ne' (fun c => h.ne hym hi c.symm)) (fun i hi => .inl hi)
          have z0 : ((([] : List Int).length : Nat) : Int) = 0 := rfl
          unfold s_rldrop
          apply frS_ex (v := .c (.b true)) (H1 := H.set id (.vec 2 ((Y.flatMap lyC).set (k * 2) (.i (-1))))) Try.func17 rfl Try.results17 Try.ntmps17 (by simp only [List.length_cons, List.length_nil]; decide)
          · intro _ _
            (try simp (config := { maxSteps := 10000000 }) only [go_sem, seval, g, a0, an, ho, hr, c0, c1, k1, k2, e1', xl, xs, as_len_y, r1, z0, Int.toNat_natCast]; repeat (simp (disch := omega) only [w64_d, ipos, ineg, dpos, dneg]; try simp (config := { maxSteps := 10000000 }) only [go_sem, seval, g, a0, an, ho, hr, c0, c1, k1, k2, e1', xl, xs, as_len_y, r1, z0, Int.toNat_natCast]))
            exact fin_same
          · simp
          · exact post (by rw [yb]) ⟨_, m1, m2, by rw [ys, m3, hq]⟩
        | cons b r =>
          rw [hq] at hx ql
          simp only [List.length_cons] at ql
          rcases hx with ⟨x1, x2⟩ | ⟨i, x1, hi⟩
          · simp at x2
          have li : i < H.length := hg_lt (by rw [hi]; rfl)
          have ine := h.ne hym (show sidI y.x = some i by rw [x1]; rfl)
          have gl : ((b :: r).flatMap encI).length = r.length + 1 := by rw [fm_len encI_l]; simp
          have g0 : ((b :: r).flatMap encI).getD 0 .any = .i b := rfl
          have gd : List.take r.length (List.drop 1 ((b :: r).flatMap encI)) = r.flatMap encI := by
            rw [show List.drop 1 ((b :: r).flatMap encI) = r.flatMap encI from rfl]
            exact List.take_of_length_le (by rw [fm_len encI_l]; omega)
          have rl : (r.flatMap encI).length = r.length := by rw [fm_len encI_l, Nat.mul_one]
          have on := encI_one r
          have hid : ∀ o, hg (H.set id o) id = o := fun o => hg_set_same lid
          have hidX : ∀ o X, hg (H.set id o ++ X) id = o := fun o X => by rw [hg_lt' (by simpa using lid), hid]
          have hiX : ∀ o X, hg (H.set id o ++ X) i = .vec 1 ((b :: r).flatMap encI) := fun o X => by rw [hg_lt' (by simpa using li), hg_set_ne' (fun c => ine c.symm), hi]
          have q5 : r.length * 8 ≤ 1099511627776 := by omega
          have r1 : wr (Y.flatMap lyC) (k * 2) [.i b] = (Y.flatMap lyC).set (k * 2) (.i b) := wr_one (by omega)
          have r2 : ∀ x, wr ((Y.flatMap lyC).set (k * 2) (.i b)) (k * 2 + 1) [x] = ((Y.flatMap lyC).set (k * 2) (.i b)).set (k * 2 + 1) x := fun x => wr_one (by rw [List.length_set]; omega)
          have c1' : ((Y.flatMap lyC).set (k * 2) (.i b)).getD (k * 2 + 1) .any = .sl i 0 (r.length + 1) (r.length + 1) := by
            rw [List.getD_eq_getElem?_getD, List.getElem?_set_ne (by omega), ← List.getD_eq_getElem?_getD, c1, x1]; rfl
          have sL : ((Y.flatMap lyC).set (k * 2) (.i b)).length = (Y.flatMap lyC).length := List.length_set
          have lx : (b :: r).length = r.length + 1 := rfl
          have hL : ∀ o X, hg (H.set id o ++ X) H.length = hg X 0 := fun o X => by have := hg_len (H := H.set id o) (X := X); rwa [List.length_set] at this
          have hS : ∀ o X p, (H.set id o ++ X).set H.length p = H.set id o ++ X.set 0 p := fun o X p => by have := set_len (H := H.set id o) (X := X) (o := p); rwa [List.length_set] at this
          rw [x1] at c1
          simp only [List.length_cons] at c1
          have c1Y := c1
          obtain ⟨m1, m2, m3⟩ := h.repl (K := (H.set id (AObj.vec 2 ((Y.flatMap lyC).set (k * 2) (.i b))) ++ [AObj.vec 1 (r.flatMap encI)]).set id (.vec 2 (((Y.flatMap lyC).set (k * 2) (.i b)).set (k * 2 + 1) (.sl H.length 0 r.length r.length)))) (z := ⟨b, .sl H.length 0 r.length r.length, r⟩) hy (by simp)
            (fun j hj hne => by rw [hg_set_ne' (fun c => hne c.symm), hg_lt' (by simpa using hj), hg_set_ne' (fun c => hne c.symm)]) (by rw [hg_set_same (by simp; omega)])
            (.inr ⟨H.length, rfl, by rw [hg_set_ne' (by omega)]; have := hg_len (H := H.set id (AObj.vec 2 ((Y.flatMap lyC).set (k * 2) (.i b)))) (X := [AObj.vec 1 (r.flatMap encI)]); rw [List.length_set] at this; rw [this]; rfl⟩) (fun j hj => by simp only [sidI, Option.some.injEq] at hj; omega)
          unfold s_rldrop
          apply frS_ex (v := .c (.b true)) (H1 := (H.set id (AObj.vec 2 ((Y.flatMap lyC).set (k * 2) (.i b))) ++ [AObj.vec 1 (r.flatMap encI)]).set id (.vec 2 (((Y.flatMap lyC).set (k * 2) (.i b)).set (k * 2 + 1) (.sl H.length 0 r.length r.length)))) Try.func17 rfl Try.results17 Try.ntmps17 (by simp only [List.length_cons, List.length_nil]; decide)
          · intro _ _
            (try simp (config := { maxSteps := 10000000 }) only [go_sem, seval, g, a0, an, ho, hr, c0, c1, k1, k2, e1', hi, gl, g0, r1, hid, hidX, hiX, c1', sL, gd, rl, on, q5, r2, lx, hL, hS, List.length_set, Int.toNat_natCast]; repeat (simp (disch := omega) only [w64_d, ipos, ineg, dpos, dneg]; try simp (config := { maxSteps := 10000000 }) only [go_sem, seval, g, a0, an, ho, hr, c0, c1, k1, k2, e1', hi, gl, g0, r1, hid, hidX, hiX, c1', sL, gd, rl, on, q5, r2, lx, hL, hS, List.length_set, Int.toNat_natCast]))
            exact fin_same
          · simp
          · exact post (by rw [yb]) ⟨_, m1, m2, by rw [ys, m3, hq]⟩
      · have nb : drB (lyS Y) w k = false := by unfold drB; rw [hrg, hat]; simp [e1]
        unfold s_rldrop
        apply frS_ex (v := .c (.b false)) Try.func17 rfl Try.results17 Try.ntmps17 (by simp only [List.length_cons, List.length_nil]; decide)
        · intro _ _
          (try simp (config := { maxSteps := 10000000 }) only [go_sem, seval, g, a0, an, ho, hr, c0, k1, e1, Int.toNat_natCast]; repeat (simp (disch := omega) only [w64_d, ipos, ineg, dpos, dneg]; try simp (config := { maxSteps := 10000000 }) only [go_sem, seval, g, a0, an, ho, hr, c0, k1, e1, Int.toNat_natCast]))
          exact fin_same
        · exact Nat.le_refl _
        · exact post (by rw [nb]) (no nb)
  obtain ⟨v, H1, h1, hlen, h2⟩ := this
  obtain ⟨rfl, h3⟩ := h2 id Y w a rfl h hQ
  exact ⟨H1, h1, hlen, h3⟩
/-! ### the locks that one holds, and at which one waits -/
def q_rlheld (args : List AV) (H : AH) (v : AV) (H1 : AH) : Prop := ∀ id Y w, args = [xV id Y, .c (.i w)] → XI H id Y → Y.length ≤ 1000 → v = .c (.sl H.length 0 (heS (lyS Y) w).length (heS (lyS Y) w).length) ∧ H1 = H ++ [.vec 1 ((heS (lyS Y) w).flatMap encI)]
def s_rlheld : List AV → AH → Option (AV × AH) := frS Try.prog [] 42 q_rlheld
set_option maxRecDepth 100000 in
set_option maxHeartbeats 2000000 in
theorem ok_rlheld : FpOk Try.prog 42 s_rlheld := frS_ok hmix TabOk.nil Try.func42 rfl Try.results42 Try.ntmps42 (by kernel_rfl) (by kernel_rfl)
theorem s_rlheld_eq {id : Nat} {Y : List Ly} (h : XI H id Y) (hY : Y.length ≤ 1000) (w : Int) : s_rlheld [xV id Y, .c (.i w)] H = some (.c (.sl H.length 0 (heS (lyS Y) w).length (heS (lyS Y) w).length), H ++ [.vec 1 ((heS (lyS Y) w).flatMap encI)]) := by
  have : ∃ v H1, s_rlheld [xV id Y, .c (.i w)] H = some (v, H1) ∧ H.length ≤ H1.length ∧ q_rlheld [xV id Y, .c (.i w)] H v H1 := by
    have hoX := fun X => (h.app X).o
    have hr := ly_row h
    rw [h.o] at hr
    simp only [AObj.row] at hr
    have lid := h.lt
    unfold s_rlheld
    apply frS_ex (v := .c (.sl H.length 0 (heS (lyS Y) w).length (heS (lyS Y) w).length)) (H1 := H ++ [.vec 1 ((heS (lyS Y) w).flatMap encI)]) Try.func42 rfl Try.results42 Try.ntmps42 (by simp only [List.length_cons, List.length_nil]; decide)
    · intro ha hH
      have bb : ∀ L : List Int, belH (H ++ [.vec 1 (L.flatMap encI)]) = true := fun L => belH_app hH (by simp only [List.mem_cons, List.not_mem_nil, or_false, forall_eq]; rw [encI_gI]; exact map_bel gI_num _ _)
      unfold xV
      (try simp (config := { maxSteps := 10000000 }) only [go_sem, seval]; repeat (simp (disch := omega) only [w64_d, ipos, ineg, dpos, dneg]; try simp (config := { maxSteps := 10000000 }) only [go_sem, seval]))
      refine arun_for Y.length (fun k => ([(0, .c (.sl id 0 (2 * Y.length) Y.length)), (1, .c (.i w)), (5, .c (.sl H.length 0 (heN (lyS Y) w k).length (heN (lyS Y) w k).length)), (6, .c (.i k))], H ++ [.vec 1 ((heN (lyS Y) w k).flatMap encI)])) ?_ fun k hk => ?_
      · refine Wk.trans (Wk.nil 5 1 (by decide) rfl (by simp [lo])) (Wk.wk (by simp [lo]) (by simp [Am.get, heN]) (by simp [AV.bel, Sc.bel]; omega) ?_ (bb _))
        exact subH_refl _
      · have k0 : (0 : Int) ≤ (k : Int) := by omega
        have wl := heN_len (S := lyS Y) (w := w) k
        have eL : ((heN (lyS Y) w k).flatMap encI).length = (heN (lyS Y) w k).length := by rw [fm_len encI_l, Nat.mul_one]
        by_cases hlt : k < Y.length
        rotate_left
        · obtain rfl : k = Y.length := by omega
          have e : heS (lyS Y) w = heN (lyS Y) w Y.length := by unfold heS; rw [lyS_len]
          rw [e]
          (try simp (config := { maxSteps := 10000000 }) only [go_sem, seval]; repeat (simp (disch := omega) only [w64_d, ipos, ineg, dpos, dneg]; try simp (config := { maxSteps := 10000000 }) only [go_sem, seval]))
          exact fin_same
        obtain ⟨y, hy⟩ : ∃ y, Y[k]? = some y := ⟨_, List.getElem?_eq_getElem hlt⟩
        have hat := lyS_at hy
        obtain ⟨c0, c1, cl⟩ := ly_cell hy
        have k1 : k * 2 + 1 ≤ (Y.flatMap lyC).length := by omega
        have kI : (k : Int) < Y.length := by omega
        have ks : heN (lyS Y) w (k + 1) = if 0 ≤ (atS (lyS Y) k).1 ∧ (atS (lyS Y) k).1 = w then heN (lyS Y) w k ++ [(k : Int)] else heN (lyS Y) w k := rfl
        rw [hat] at ks
        simp only at ks
        have e1 : w64 ((k : Int) + 1) = ((k + 1 : Nat) : Int) := by rw [w64_d (by omega) (by omega)]; omega
        have k5 : ((heN (lyS Y) w k).length + 1) * 8 ≤ 1099511627776 := by omega
        have bxx : Sc.bel (H.length + 1) (.sl id 0 (2 * Y.length) Y.length) = true := by simp [Sc.bel]; omega
        by_cases w0 : 0 ≤ w
        · by_cases hw : y.h = w
          · rw [if_pos ⟨by omega, hw⟩] at ks
            have hw' := eq_true hw
            (try simp (config := { maxSteps := 10000000 }) only [go_sem, seval, hoX, hr, c0, k1, k0, kI, w0, hw', e1, k5, eL, Int.toNat_natCast]; repeat (simp (disch := omega) only [w64_d, ipos, ineg, dpos, dneg]; try simp (config := { maxSteps := 10000000 }) only [go_sem, seval, hoX, hr, c0, k1, k0, kI, w0, hw', e1, k5, eL, Int.toNat_natCast]))
            refine ⟨k + 1, by omega, by omega, ?_⟩
            rw [ks]
            exact Wk.wk (by simp [lo]) (by simp [Am.get]) (by simp [AV.bel, Sc.bel]; omega) (subH_pre _ ⟨.inr (by rw [fm_app]; rfl), trivial⟩) (bb _)
          · rw [if_neg (fun c => hw c.2)] at ks
            (try simp (config := { maxSteps := 10000000 }) only [go_sem, seval, hoX, hr, c0, k1, k0, kI, w0, hw, e1, Int.toNat_natCast]; repeat (simp (disch := omega) only [w64_d, ipos, ineg, dpos, dneg]; try simp (config := { maxSteps := 10000000 }) only [go_sem, seval, hoX, hr, c0, k1, k0, kI, w0, hw, e1, Int.toNat_natCast]))
            refine ⟨k + 1, by omega, by omega, ?_⟩
            rw [ks]
            exact wkFL (by simp [Am.get])
        · rw [if_neg (fun c => w0 (by omega))] at ks
          (try simp (config := { maxSteps := 10000000 }) only [go_sem, seval, hoX, hr, k0, kI, w0, e1, Int.toNat_natCast]; repeat (simp (disch := omega) only [w64_d, ipos, ineg, dpos, dneg]; try simp (config := { maxSteps := 10000000 }) only [go_sem, seval, hoX, hr, k0, kI, w0, e1, Int.toNat_natCast]))
          refine ⟨k + 1, by omega, by omega, ?_⟩
          rw [ks]
          exact wkFL (by simp [Am.get])
    · simp
    · intro id' Z w' he hZ _
      simp only [xV, List.cons.injEq, AV.c.injEq, Sc.sl.injEq, Sc.i.injEq, and_true] at he
      obtain ⟨⟨rfl, _⟩, rfl⟩ := he
      rw [h.uniq hZ]
      exact ⟨rfl, rfl⟩
  obtain ⟨v, H1, h1, _, h2⟩ := this
  obtain ⟨rfl, rfl⟩ := h2 id Y w rfl h hY
  exact h1
def rwV (S : LS) (w : Int) : AV := .c (.i (match waK S w with | some k => (k : Int) | none => -1))
def q_rlwaits (args : List AV) (H : AH) (v : AV) : Prop := ∀ id Y w, args = [xV id Y, .c (.i w)] → XI H id Y → OkQ (lyS Y) → Y.length ≤ 1000 → v = rwV (lyS Y) w
def s_rlwaits : List AV → AH → Option AV := frQ Try.prog [(40, .fq s_rlin)] 41 q_rlwaits
set_option maxRecDepth 100000 in
set_option maxHeartbeats 2000000 in
theorem ok_rlwaits : FpOk Try.prog 41 (fun args H => (s_rlwaits args H).map fun v => (v, H)) := frQ_ok hmix (TabOk.cons (e := .fq s_rlin) ok_rlin TabOk.nil) Try.func41 rfl Try.results41 Try.ntmps41 (by kernel_rfl) (by kernel_rfl)
theorem s_rlwaits_eq {id : Nat} {Y : List Ly} (h : XI H id Y) (hQ : OkQ (lyS Y)) (hY : Y.length ≤ 1000) (w : Int) : s_rlwaits [xV id Y, .c (.i w)] H = some (rwV (lyS Y) w) := by
  have : ∃ v, s_rlwaits [xV id Y, .c (.i w)] H = some v ∧ q_rlwaits [xV id Y, .c (.i w)] H v := by
    have ho := h.o
    have hr := ly_row h
    rw [h.o] at hr
    simp only [AObj.row] at hr
    unfold s_rlwaits
    apply frQ_ex (v := rwV (lyS Y) w) Try.func41 rfl Try.results41 Try.ntmps41 (by simp only [List.length_cons, List.length_nil]; decide)
    · exact fun _ _ => rfl
    · intro ha hH
      unfold xV
      (try simp (config := { maxSteps := 10000000 }) only [go_sem, seval]; repeat (simp (disch := omega) only [w64_d, ipos, ineg, dpos, dneg]; try simp (config := { maxSteps := 10000000 }) only [go_sem, seval]))
      rw [arun_loop]
      refine ⟨{k : Nat // k ≤ Y.length ∧ ∀ j, j < k → ∀ y, Y[j]? = some y → w ∉ y.q}, fun k => ([(0, .c (.sl id 0 (2 * Y.length) Y.length)), (1, .c (.i w)), (5, .c (.i k.1))], H), fun k => Y.length - k.1, ⟨0, by omega, fun j hj => absurd hj (Nat.not_lt_zero _)⟩, wkFL (by simp [Am.get]), ?_⟩
      rintro ⟨k, hk, hj⟩
      have k0 : (0 : Int) ≤ (k : Int) := by omega
      by_cases hlt : k < Y.length
      rotate_left
      · obtain rfl : k = Y.length := by omega
        have e : waK (lyS Y) w = none := by
          unfold waK lyS
          rw [List.findIdx?_eq_none_iff]
          intro z hz
          obtain ⟨y, hy, rfl⟩ := List.mem_map.1 hz
          obtain ⟨j, hjl, rfl⟩ := List.mem_iff_getElem.1 hy
          simpa using hj j hjl _ (List.getElem?_eq_getElem hjl)
        (try simp (config := { maxSteps := 10000000 }) only [go_sem, seval, rwV, e]; repeat (simp (disch := omega) only [w64_d, ipos, ineg, dpos, dneg]; try simp (config := { maxSteps := 10000000 }) only [go_sem, seval, rwV, e]))
        exact subH_refl _
      obtain ⟨y, hy⟩ : ∃ y, Y[k]? = some y := ⟨_, List.getElem?_eq_getElem hlt⟩
      have hym := List.mem_of_getElem? hy
      obtain ⟨c0, c1, cl⟩ := ly_cell hy
      have k2 : k * 2 + 1 + 1 ≤ (Y.flatMap lyC).length := by omega
      have kI : (k : Int) < Y.length := by omega
      have e1 : w64 ((k : Int) + 1) = ((k + 1 : Nat) : Int) := by rw [w64_d (by omega) (by omega)]; omega
      have ql : y.q.length ≤ 100000 := hQ _ (lyS_mem hym)
      have cn := s_rlin_of (k := w) (isx_sp (h.q y hym)) (by omega)
      by_cases hw : w ∈ y.q
      · rw [decide_eq_true hw] at cn
        have e : waK (lyS Y) w = some k := by
          unfold waK
          rw [List.findIdx?_eq_some_iff_getElem]
          refine ⟨by rw [lyS_len]; exact hlt, ?_, fun j hjl => ?_⟩
          · rw [List.getElem?_eq_getElem hlt, Option.some.injEq] at hy
            simp only [lyS, List.getElem_map, hy]; simpa using hw
          · have := hj j hjl _ (List.getElem?_eq_getElem (by omega))
            simp only [lyS, List.getElem_map]; simpa using this
        (try simp (config := { maxSteps := 10000000 }) only [go_sem, seval, ho, hr, c1, k2, k0, kI, cn, rwV, e, Int.toNat_natCast]; repeat (simp (disch := omega) only [w64_d, ipos, ineg, dpos, dneg]; try simp (config := { maxSteps := 10000000 }) only [go_sem, seval, ho, hr, c1, k2, k0, kI, cn, rwV, e, Int.toNat_natCast]))
        exact subH_refl _
      · rw [decide_eq_false hw] at cn
        (try simp (config := { maxSteps := 10000000 }) only [go_sem, seval, ho, hr, c1, k2, k0, kI, cn, e1, Int.toNat_natCast]; repeat (simp (disch := omega) only [w64_d, ipos, ineg, dpos, dneg]; try simp (config := { maxSteps := 10000000 }) only [go_sem, seval, ho, hr, c1, k2, k0, kI, cn, e1, Int.toNat_natCast]))
        exact ⟨⟨k + 1, by omega, fun j hj' z hz => by
          rcases Nat.lt_succ_iff_lt_or_eq.1 hj' with h' | rfl
          · exact hj j h' z hz
          · rw [hy] at hz; simp at hz; subst hz; exact hw⟩, by simp only; omega, wkFL (by simp [Am.get])⟩
    · intro id' Z w' he hZ _ _
      simp only [xV, List.cons.injEq, AV.c.injEq, Sc.sl.injEq, Sc.i.injEq, and_true] at he
      obtain ⟨⟨rfl, _⟩, rfl⟩ := he
      rw [h.uniq hZ]
  obtain ⟨v, h1, h2⟩ := this
  rw [h1, h2 id Y w rfl h hQ hY]
end
end
end Go.Proofs.Ythfccacopffkgaa
