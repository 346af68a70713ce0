/- Layer 12: locks that are as the document's: the walk. -/
import Derived.Test.YthfccacopffkgaaLkH
namespace Go.Proofs.Ythfccacopffkgaa
open Go.Am
set_option linter.unusedSimpArgs false
set_option linter.unusedVariables false
noncomputable section
set_option maxRecDepth 100000

section
variable {H : AH} {D : Ld}
theorem LI.okS (h : LI H D) : OkS D.S := by
  intro y hy hn
  obtain ⟨k, hk, rfl⟩ := List.mem_iff_getElem.1 hy
  have hs := fd_rng h hk
  rw [List.getElem?_eq_getElem hk, Option.some.injEq] at hs
  rw [hs] at hn ⊢
  cases hf : fdK D.es (k : Int) with
  | none => rfl
  | some e =>
    rw [hf] at hn
    have := (h.ok e (fdK_some hf).1).h0
    simp only [enS] at hn
    omega
theorem LI.okQ (h : LI H D) : OkQ D.S := by
  intro y hy
  obtain ⟨k, hk, rfl⟩ := List.mem_iff_getElem.1 hy
  have hs := fd_rng h hk
  rw [List.getElem?_eq_getElem hk, Option.some.injEq] at hs
  rw [hs]
  cases hf : fdK D.es (k : Int) with
  | none => simp [enS]
  | some e =>
    have := h.qlen (fdK_some hf).1
    simp only [enS]
    omega
theorem subH_ofL : ∀ {H K : AH}, H.length ≤ K.length → (∀ i, i < H.length → hg K i = hg H i) → subH H K
  | [], _, _, _ => trivial
  | o :: H, [], hl, _ => by simp at hl
  | o :: H, p :: K, hl, h => by
    refine ⟨.inr ?_, subH_ofL (by simpa using hl) fun i hi => ?_⟩
    · have := h 0 (by simp); exact this.symm
    · have := h (i + 1) (by simpa using hi); exact this
def q_lsame (args : List AV) (H : AH) (v : AV) : Prop := ∀ D id Y, args = [.c (.p D.p 0 0), xV id Y] → LI H D → XI H id Y → D.S = lyS Y → v = .c (.b true)
def s_lsame : List AV → AH → Option AV := frQ Try.prog [(28, .fq s_lholder), (30, .fp s_lqueue), (21, .fq s_ints), (29, .fq s_lwaits), (41, .fq s_rlwaits), (14, .fp s_lheld), (42, .fp s_rlheld)] 20 q_lsame
set_option maxRecDepth 100000 in
set_option maxHeartbeats 2000000 in
theorem ok_lsame : FpOk Try.prog 20 (fun args H => (s_lsame args H).map fun v => (v, H)) := frQ_ok hmix (TabOk.cons (e := .fq s_lholder) ok_lholder (TabOk.cons (e := .fp s_lqueue) ok_lqueue (TabOk.cons (e := .fq s_ints) ok_ints (TabOk.cons (e := .fq s_lwaits) ok_lwaits (TabOk.cons (e := .fq s_rlwaits) ok_rlwaits (TabOk.cons (e := .fp s_lheld) ok_lheld (TabOk.cons (e := .fp s_rlheld) ok_rlheld TabOk.nil))))))) Try.func20 rfl Try.results20 Try.ntmps20 (by kernel_rfl) (by kernel_rfl)
/-- objects more, and those that were there as they were -/
structure Grw (H K : AH) : Prop where
  len : H.length ≤ K.length
  old : ∀ i, i < H.length → hg K i = hg H i
theorem Grw.refl : Grw H H := ⟨Nat.le_refl _, fun _ _ => rfl⟩
theorem Grw.trans {K J : AH} (h : Grw H K) (h' : Grw K J) : Grw H J := ⟨Nat.le_trans h.len h'.len, fun i hi => by rw [h'.old i (Nat.lt_of_lt_of_le hi h.len), h.old i hi]⟩
theorem Grw.app {K : AH} (h : Grw H K) (X : AH) : Grw H (K ++ X) := h.trans ⟨by simp, fun i hi => hg_lt' hi⟩
theorem LI.grw {K : AH} (h : LI H D) (g : Grw H K) : LI K D := h.frame fun i hi => g.old i (h.lt hi)
theorem XI.grw {K : AH} {id : Nat} {Y : List Ly} (h : XI H id Y) (g : Grw H K) : XI K id Y := h.frame (g.old id h.lt) fun y hy i hi => g.old i (isx_lt (h.q y hy) hi).1
theorem s_lsame_eq {id : Nat} {Y : List Ly} (h : LI H D) (hx : XI H id Y) (hS : D.S = lyS Y) : s_lsame [.c (.p D.p 0 0), xV id Y] H = some (.c (.b true)) := by
  have : ∃ v, s_lsame [.c (.p D.p 0 0), xV id Y] H = some v ∧ q_lsame [.c (.p D.p 0 0), xV id Y] H v := by
    have hn := S_lenI h
    rw [hS, lyS_len] at hn
    have n1 := h.n1
    have n128 := h.n128
    have okS := h.okS
    have okQ := h.okQ
    rw [hS] at okS okQ
    unfold xV
    unfold s_lsame
    apply frQ_ex (v := .c (.b true)) Try.func20 rfl Try.results20 Try.ntmps20 (by simp only [List.length_cons, List.length_nil]; decide)
    · exact fun _ _ => rfl
    · intro ha hH
      (try simp (config := { maxSteps := 10000000 }) only [go_sem, seval]; repeat (simp (disch := omega) only [w64_d, ipos, ineg, dpos, dneg]; try simp (config := { maxSteps := 10000000 }) only [go_sem, seval]))
      rw [arun_loop]
      refine ⟨{x : Nat × AH // x.1 ≤ Y.length + 2 ∧ Grw H x.2}, fun x => ([(0, .c (.p D.p 0 0)), (1, .c (.sl id 0 (2 * Y.length) Y.length)), (5, .c (.i ((x.1.1 : Int) - 1)))], x.1.2), fun x => Y.length + 2 - x.1.1, ⟨(0, H), by omega, Grw.refl⟩, wkFL (by simp [Am.get]), ?_⟩
      rintro ⟨⟨k, K⟩, hk, gr⟩
      simp only at hk gr
      have hL := h.grw gr
      have hX := hx.grw gr
      have hoK := hX.o
      have hr := ly_row hX
      rw [hoK] at hr
      simp only [AObj.row] at hr
      by_cases hlt : k < Y.length + 2
      rotate_left
      · obtain rfl : k = Y.length + 2 := by omega
        have e0 : ¬ ((((Y.length + 2 : Nat) : Int) - 1) ≤ (Y.length : Int)) := by omega
        (try simp (config := { maxSteps := 10000000 }) only [go_sem, seval, e0]; repeat (simp (disch := omega) only [w64_d, ipos, ineg, dpos, dneg]; try simp (config := { maxSteps := 10000000 }) only [go_sem, seval, e0]))
        rw [arun_loop]
        refine ⟨{x : Nat × AH // x.1 ≤ 10 ∧ Grw H x.2}, fun x => ([(0, .c (.p D.p 0 0)), (1, .c (.sl id 0 (2 * Y.length) Y.length)), (8, .c (.i ((x.1.1 : Int) - 1)))], x.1.2), fun x => 10 - x.1.1, ⟨(0, K), by omega, gr⟩, wkFL (by simp [Am.get]), ?_⟩
        rintro ⟨⟨k, J⟩, hk, gr⟩
        simp only at hk gr
        by_cases hlt : k < 10
        rotate_left
        · obtain rfl : k = 10 := by omega
          (try simp (config := { maxSteps := 10000000 }) only [go_sem, seval]; repeat (simp (disch := omega) only [w64_d, ipos, ineg, dpos, dneg]; try simp (config := { maxSteps := 10000000 }) only [go_sem, seval]))
          exact subH_ofL gr.len gr.old
        have hL := h.grw gr
        have hX := hx.grw gr
        have e0 : (k : Int) - 1 ≤ 8 := by omega
        have e1 : w64 ((k : Int) - 1 + 1) = ((k + 1 : Nat) : Int) - 1 := by rw [w64_d (by omega) (by omega)]; omega
        have a1 := s_lwaits_eq hL (w := (k : Int) - 1)
        rw [waV_t, hS] at a1
        have a2 := s_rlwaits_eq hX okQ (by omega) ((k : Int) - 1)
        unfold xV rwV at a2
        have a3 := s_lheld_eq hL ((k : Int) - 1)
        rw [hS] at a3
        have a4 := s_rlheld_eq (hX.app [AObj.vec 1 ((heS (lyS Y) ((k : Int) - 1)).flatMap encI)]) (by omega) ((k : Int) - 1)
        unfold xV at a4
        generalize hq : heS (lyS Y) ((k : Int) - 1) = q at a3 a4
        have ql : q.length ≤ 1000000 := by
          have := heN_len (S := lyS Y) (w := (k : Int) - 1) (lyS Y).length
          rw [← hq]; unfold heS; rw [lyS_len] at this ⊢; omega
        rw [show (J ++ [AObj.vec 1 (q.flatMap encI)]).length = J.length + 1 by simp] at a4
        have a5 := s_ints_eq (H := J ++ [AObj.vec 1 (q.flatMap encI), AObj.vec 1 (q.flatMap encI)]) (x := .sl J.length 0 q.length q.length) (y := .sl (J.length + 1) 0 q.length q.length) (A := q)
          (isx_sp (.inr ⟨_, rfl, by rw [hg_len]; rfl⟩)) (isx_sp (.inr ⟨_, rfl, by rw [hg_len_add]; rfl⟩)) ql
        simp only [List.append_assoc, List.cons_append, List.nil_append] at a4
        cases hw : waK (lyS Y) ((k : Int) - 1) with
        | none =>
          rw [hw] at a1 a2
          (try simp (config := { maxSteps := 10000000 }) only [go_sem, seval, e0, e1, a1, a2, a3, a4, a5, Option.isSome_none]; repeat (simp (disch := omega) only [w64_d, ipos, ineg, dpos, dneg]; try simp (config := { maxSteps := 10000000 }) only [go_sem, seval, e0, e1, a1, a2, a3, a4, a5, Option.isSome_none]))
          (repeat' first | apply And.intro | (intro _; kernel_rfl) | kernel_rfl)
          exact ⟨⟨(k + 1, _), by omega, gr.app _⟩, by simp only; omega, wkFL (by simp [Am.get])⟩
        | some j =>
          rw [hw] at a1 a2
          have j0 : (0 : Int) ≤ (j : Int) := by omega
          (try simp (config := { maxSteps := 10000000 }) only [go_sem, seval, e0, e1, a1, a2, a3, a4, a5, j0, Option.isSome_some]; repeat (simp (disch := omega) only [w64_d, ipos, ineg, dpos, dneg]; try simp (config := { maxSteps := 10000000 }) only [go_sem, seval, e0, e1, a1, a2, a3, a4, a5, j0, Option.isSome_some]))
          (repeat' first | apply And.intro | (intro _; kernel_rfl) | kernel_rfl)
          exact ⟨⟨(k + 1, _), by omega, gr.app _⟩, by simp only; omega, wkFL (by simp [Am.get])⟩
      have e0 : ((k : Int) - 1 ≤ (Y.length : Int)) := by omega
      have e1 : w64 ((k : Int) - 1 + 1) = ((k + 1 : Nat) : Int) - 1 := by rw [w64_d (by omega) (by omega)]; omega
      have a1 := s_lholder_eq hL (a := (k : Int) - 1)
      obtain ⟨v, K1, a2, l2, ⟨x, rfl, x1, x2⟩, x3⟩ := s_lqueue_ex hL ((k : Int) - 1)
      have g1 : Grw H K1 := gr.trans ⟨l2, x3⟩
      rw [hS] at a1 x1
      have xl := slP_len (isx_sp x1)
      have xs := slP_isS (isx_sp x1)
      by_cases ko : k = 0 ∨ k = Y.length + 1
      · have q0 : quS (lyS Y) ((k : Int) - 1) = [] := by
          unfold quS; rw [if_neg]; rw [lyS_len]; omega
        have h0 : hoV (lyS Y) ((k : Int) - 1) = .t [.c (.i 0), .c (.b false)] := by
          unfold hoV; rw [if_neg]; rw [lyS_len]; omega
        rw [q0] at xl
        rw [h0] at a1
        rcases ko with rfl | rfl
        · have e00 : (((0 : Nat) : Int) - 1) = -1 := rfl
          rw [e00] at a1 a2 e0 e1
          (try simp (config := { maxSteps := 10000000 }) only [go_sem, seval, e00, e0, e1, a1, a2, xl, xs, as_len_y]; repeat (simp (disch := omega) only [w64_d, ipos, ineg, dpos, dneg]; try simp (config := { maxSteps := 10000000 }) only [go_sem, seval, e00, e0, e1, a1, a2, xl, xs, as_len_y]))
          exact ⟨⟨(1, _), by omega, g1⟩, by simp only; omega, wkFL (by simp [Am.get])⟩
        · have m1 : ¬ (((Y.length + 1 : Nat) : Int) - 1 < 0) := by omega
          have m2 : (((Y.length + 1 : Nat) : Int) - 1 = (Y.length : Int)) := by omega
          have m3 := eq_true m2
          (try simp (config := { maxSteps := 10000000 }) only [go_sem, seval, e0, e1, a1, a2, xl, xs, as_len_y, m1, m3]; repeat (simp (disch := omega) only [w64_d, ipos, ineg, dpos, dneg]; try simp (config := { maxSteps := 10000000 }) only [go_sem, seval, e0, e1, a1, a2, xl, xs, as_len_y, m1, m3]))
          exact ⟨⟨(Y.length + 1 + 1, _), by omega, g1⟩, by simp only; omega, wkFL (by simp [Am.get])⟩
      · obtain ⟨j, rfl⟩ : ∃ j, k = j + 1 := ⟨k - 1, by omega⟩
        have jl : j < Y.length := by omega
        have ej : ((j + 1 : Nat) : Int) - 1 = (j : Int) := by omega
        rw [ej] at a1 a2 x1 e0 e1 xl
        obtain ⟨y, hy⟩ : ∃ y, Y[j]? = some y := ⟨_, List.getElem?_eq_getElem jl⟩
        have hym := List.mem_of_getElem? hy
        have hat := lyS_at hy
        obtain ⟨c0, c1, cl⟩ := ly_cell hy
        have k1 : j * 2 + 1 ≤ (Y.flatMap lyC).length := by omega
        have k2 : j * 2 + 1 + 1 ≤ (Y.flatMap lyC).length := by omega
        have q0 : quS (lyS Y) (j : Int) = y.q := by
          unfold quS; rw [if_pos (by rw [lyS_len]; omega), hat]
        rw [q0] at x1
        have hX1 := hx.grw g1
        have a3 := s_ints_eq (isx_sp x1) (isx_sp (hX1.q y hym)) (by have : y.q.length ≤ 100000 := okQ _ (lyS_mem hym); omega)
        have o1 := hX1.o
        have r1 := ly_row hX1
        rw [o1] at r1
        simp only [AObj.row] at r1
        have j0 : (0 : Int) ≤ (j : Int) := by omega
        have j1 : ¬ ((j : Int) < 0) := by omega
        have j2 : ¬ ((j : Int) = (Y.length : Int)) := by omega
        have j3 : (j : Int) < (Y.length : Int) := by omega
        have nc : ∀ a b : Nat, ∀ full : Array Oper, ¬ (hg K1 id = hg K id ∧ (hg K id).live = true) → tied full a b = true := fun a b full c => absurd ⟨by rw [o1, hoK], by rw [hoK]; rfl⟩ c
        by_cases hh : 0 ≤ y.h
        · have h0 : hoV (lyS Y) (j : Int) = .t [.c (.i y.h), .c (.b true)] := by
            unfold hoV; rw [hat, if_pos ⟨by omega, by rw [lyS_len]; omega, hh⟩]
          rw [h0] at a1
          (try simp (config := { maxSteps := 10000000 }) only [go_sem, seval, ej, e0, e1, a1, a2, a3, j1, j2, j3, hoK, hr, o1, r1, c0, c1, k1, k2, hh, Int.toNat_natCast]; repeat (simp (disch := omega) only [w64_d, ipos, ineg, dpos, dneg]; try simp (config := { maxSteps := 10000000 }) only [go_sem, seval, ej, e0, e1, a1, a2, a3, j1, j2, j3, hoK, hr, o1, r1, c0, c1, k1, k2, hh, Int.toNat_natCast]))
          (repeat' first | apply And.intro | (intro _; kernel_rfl) | kernel_rfl)
          exact ⟨⟨(j + 1 + 1, _), by omega, g1⟩, by simp only; omega, wkFL (by simp [Am.get])⟩
        · have h0 : hoV (lyS Y) (j : Int) = .t [.c (.i 0), .c (.b false)] := by
            unfold hoV; rw [hat, if_neg (fun c => hh c.2.2)]
          rw [h0] at a1
          (try simp (config := { maxSteps := 10000000 }) only [go_sem, seval, ej, e0, e1, a1, a2, a3, j1, j2, j3, hoK, hr, o1, r1, c0, c1, k1, k2, hh, Int.toNat_natCast]; repeat (simp (disch := omega) only [w64_d, ipos, ineg, dpos, dneg]; try simp (config := { maxSteps := 10000000 }) only [go_sem, seval, ej, e0, e1, a1, a2, a3, j1, j2, j3, hoK, hr, o1, r1, c0, c1, k1, k2, hh, Int.toNat_natCast]))
          (repeat' first | apply And.intro | (intro _; kernel_rfl) | kernel_rfl)
          exact ⟨⟨(j + 1 + 1, _), by omega, g1⟩, by simp only; omega, wkFL (by simp [Am.get])⟩
    · intro E id' Z he hE hZ _
      rfl
  obtain ⟨v, h1, h2⟩ := this
  rw [h1, h2 D id Y rfl h hx hS]
end
end
end Go.Proofs.Ythfccacopffkgaa
