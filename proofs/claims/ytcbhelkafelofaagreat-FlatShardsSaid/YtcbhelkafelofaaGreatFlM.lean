/- Layer 32: an ask of memory, done: contracts. -/
import Derived.Test.YtcbhelkafelofaaGreatFlK
import Derived.Test.YtcbhelkafelofaaGreatFlI
namespace Go.Proofs.YtcbhelkafelofaaGreat
open Go.Am
set_option linter.unusedSimpArgs false
set_option linter.unusedVariables false
noncomputable section
set_option maxRecDepth 100000

theorem fwC_get {s : Fw} {R : List Sl} {k : Nat} {x : Sl} (hx : R[k]? = some x) : ((fwC s R).drop (5 + k * 2)).take 2 = slC x := by
  have hk : k < R.length := by
    rcases Nat.lt_or_ge k R.length with h | h
    · exact h
    · rw [List.getElem?_eq_none h] at hx; simp at hx
  have e := drop_mid (A := [.i s.h, .i s.t, .i s.n, .i s.b, .sl s.id 0 s.B.length s.B.length]) (M := tabC R) (B := s.bus :: s.m) (i := k * 2) (n := 2) (by unfold tabC; rw [fm_len slC_l]; omega)
  have e2 := fm_get slC_l hx
  unfold fwC wdC
  show (List.drop (([.i s.h, .i s.t, .i s.n, .i s.b, .sl s.id 0 s.B.length s.B.length] : List Sc).length + k * 2) ([.i s.h, .i s.t, .i s.n, .i s.b, .sl s.id 0 s.B.length s.B.length] ++ (tabC R ++ s.bus :: s.m))).take 2 = _
  rw [e]; exact e2
section
variable {H : AH}
theorem pt_num {z : Fw} (hI : FwI H z) {a b : BitVec 64} {c s : Int} (hp : hasP z.B.length a b c s = true) (hm : smB c s = true) :
    ∃ x0 x1, ptV z.id 0 z.B.length z.B.length a b c s = .t [.c x0, .c x1, .c (.b true)] ∧ (AV.c x0).cells = some [x0] ∧ (AV.c x1).cells = some [x1] ∧ ∀ X, s_fnum [.c x0, .c x1] (H ++ X) = some (.c (.u (numW (btsW z.B a b c s)))) := by
  simp only [smB, decide_eq_true_eq] at hm
  obtain ⟨m1, m2, m3, m4⟩ := hm
  have cv := fun X => cutF_vec (hI.app X).v
  unfold hasP at hp
  unfold ptV btsW
  by_cases c0 : c = 0
  · rw [if_pos c0] at hp
    rw [if_pos c0, if_pos c0, if_pos hp]
    rw [hasF_iff] at hp
    refine ⟨_, _, rfl, rfl, rfl, fun X => ?_⟩
    have := s_fnum_eq (cutF_sub (cv X) (a := offW a) (n := s.toNat) (by omega)) (show cutF (H ++ X) .nils = some [] from rfl) (by rw [List.length_take]; omega) (by simp)
    rw [List.append_nil] at this
    exact this
  · rw [if_neg c0, Bool.and_eq_true] at hp
    rw [if_neg c0, if_neg c0, if_pos hp]
    rw [hasF_iff, hasF_iff] at hp
    exact ⟨_, _, rfl, rfl, rfl, fun X => s_fnum_eq (cutF_sub (cv X) (a := offW a) (n := c.toNat) (by omega)) (cutF_sub (cv X) (a := offW b) (n := (s - c).toNat) (by omega)) (by rw [List.length_take]; omega) (by rw [List.length_take]; omega)⟩
def s_fmemW (args : List AV) (H : AH) : Option (AV × AH) :=
  match args with
  | [.c (.p p 0 0), .c (.i h), .g (.i k :: .u a :: .u b :: .i c :: .i s :: .i op :: .u d :: .u o :: .b lv :: r)] =>
    match fwQ H p with
    | some z => if askR r ∧ wOk z h ⟨k, a, b, c, s, op, d, o, lv⟩ = true then some (.g (anC (wD z h ⟨k, a, b, c, s, op, d, o, lv⟩) (wG z h ⟨k, a, b, c, s, op, d, o, lv⟩)), fwSet H z (wB z h ⟨k, a, b, c, s, op, d, o, lv⟩) (wR z h ⟨k, a, b, c, s, op, d, o, lv⟩)) else none
    | none => none
  | _ => none
theorem s_fmemW_eq {z : Fw} (hI : FwI H z) {h k : Int} {a b : BitVec 64} {c s op : Int} {d o : BitVec 64} {lv : Bool} {r : List Sc} (hr : askR r) (hk : wOk z h ⟨k, a, b, c, s, op, d, o, lv⟩ = true) :
    s_fmemW [.c (.p z.p 0 0), .c (.i h), .g (.i k :: .u a :: .u b :: .i c :: .i s :: .i op :: .u d :: .u o :: .b lv :: r)] H = some (.g (anC (wD z h ⟨k, a, b, c, s, op, d, o, lv⟩) (wG z h ⟨k, a, b, c, s, op, d, o, lv⟩)), fwSet H z (wB z h ⟨k, a, b, c, s, op, d, o, lv⟩) (wR z h ⟨k, a, b, c, s, op, d, o, lv⟩)) := by
  simp only [s_fmemW, fwQ_of hI]; rw [if_pos ⟨hr, hk⟩]
theorem len_fmemW (args : List AV) (H : AH) (v : AV) (H1 : AH) (h : s_fmemW args H = some (v, H1)) : H.length ≤ H1.length := by
  unfold s_fmemW at h
  repeat' split at h
  all_goals simp at h
  rw [← h.2, fwSet_len]; exact Nat.le_refl _
theorem anG_bel {d : BitVec 64} {g : Bool} {n : Nat} : (AV.g (anC d g)).bel n = true := anC_bel
set_option maxRecDepth 100000 in
set_option maxHeartbeats 4000000 in
theorem ok_fmemW : FpOk Tryz.prog 33 s_fmemW := by
  refine fp_ok (s := s_fmemW) (tab := [(41, .fq s_fparts), (30, .fq s_fnum), (63, .fp s_flayW), (52, .pu s_amoDo), (64, .pu s_low)]) hmix (TabOk.cons (e := .fq s_fparts) ok_fparts (TabOk.cons (e := .fq s_fnum) ok_fnum (TabOk.cons (e := .fp s_flayW) ok_flayW (TabOk.cons (e := .pu s_amoDo) ok_amoDo (TabOk.cons (e := .pu s_low) ok_low TabOk.nil))))) Tryz.func33 rfl Tryz.results33 Tryz.ntmps33 (by kernel_rfl) (by kernel_rfl) len_fmemW ?_
  intro args H v H1 h hargs hH
  unfold s_fmemW at h
  split at h <;> try (simp at h; done)
  rename_i p h0 k a b c s op d o lv r
  split at h <;> try (simp at h; done)
  rename_i z hz
  split at h <;> try (simp at h; done)
  rename_i hc
  obtain ⟨hr, hok⟩ := hc
  simp only [Option.some.injEq, Prod.mk.injEq] at h
  obtain ⟨rfl, rfl⟩ := h
  obtain ⟨hI, rfl⟩ := fwQ_inv hz
  obtain ⟨lr, pr, ro⟩ := hr
  refine ⟨by simp only [List.length_cons, List.length_nil]; decide, ?_⟩
  have rt : r.take 10 = r := List.take_of_length_le (by omega)
  have hok' := hok
  unfold wOk at hok'
  simp only [Bool.and_eq_true, decide_eq_true_eq] at hok'
  obtain ⟨hf, hp, g0, g1⟩ := hok'
  have hh := hI.hh
  obtain ⟨m, rfl⟩ : ∃ m : Nat, h0 = (m : Int) := ⟨h0.toNat, by omega⟩
  have m8 : m < 8 := by omega
  have mI : (m : Int) < 8 := by omega
  have m0 : (0 : Int) ≤ (m : Int) := by omega
  have hm := p2_sm (b := b) hf
  have gk := form_k hf
  have hm' := hm
  simp only [smB, decide_eq_true_eq] at hm'
  have l14 : (Sc.i op :: .u d :: .u o :: .b lv :: r).length = 14 := by simp [lr]
  have p14 : (Sc.i op :: .u d :: .u o :: .b lv :: r).all Sc.pf = true := by simp [Sc.pf, pr]
  have o14 : (Sc.i op :: .u d :: .u o :: .b lv :: r).all Sc.one = true := by simp [Sc.one, ro]
  have pt := fun X => s_fparts_eq (k := k) (a := a) (b := b) (c := c) (s := s) (r := .i op :: .u d :: .u o :: .b lv :: r) (hI.app X).R hI.b0 hI.b1 hm'.2.2.1 hm'.2.2.2 hm'.2.1 l14 o14
  obtain ⟨x0, x1, ept, hx0, hx1, fn⟩ := pt_num hI hp hm
  simp only [ept] at pt
  simp only [AV.cells] at hx0 hx1
  have eV : numW (btsW z.B a b c s) = wV z ⟨k, a, b, c, s, op, d, o, lv⟩ := rfl
  rw [eV] at fn
  have oX := fun X => (hI.app X).o
  have slf := hI.self
  have p3 := fun X v => s_flayW_eq (h := (m : Int)) (v := v) (hI.app X) hp hm gk l14 p14 o14
  simp only [fwSet_app hI] at p3
  have bb := fun B R => hI.bel hH B R
  have gH : ∀ B R X, hg (fwSet H z B R ++ X) H.length = hg X 0 := fun B R X => by rw [← fwSet_len (H := H) (s := z) (B := B) (R := R), hg_len]
  have gN : ∀ B R X n, hg (fwSet H z B R ++ X) (H.length + n) = hg X n := fun B R X n => by rw [← fwSet_len (H := H) (s := z) (B := B) (R := R), hg_len_add]
  have sN : ∀ B R X n o, (fwSet H z B R ++ X).set (H.length + n) o = fwSet H z B R ++ X.set n o := fun B R X n o => by rw [← fwSet_len (H := H) (s := z) (B := B) (R := R), set_len_add]
  have gP : ∀ B R X, hg (fwSet H z B R ++ X) z.p = .own (fwC z R) := fun B R X => by
    rw [hg_lt' (by rw [fwSet_len]; exact hI.lp)]
    unfold fwSet
    rw [hg_set_same (by rw [List.length_set]; exact hI.lp)]
  have sP : ∀ B R X R', (fwSet H z B R ++ X).set z.p (.own (fwC z R')) = fwSet H z B R' ++ X := fun B R X R' => by
    rw [List.set_append_left _ _ (by rw [fwSet_len]; exact hI.lp)]
    unfold fwSet
    rw [List.set_set]
  have sX : ∀ X R', (H ++ X).set z.p (.own (fwC z R')) = fwSet H z z.B R' ++ X := fun X R' => by
    have := sP z.B z.R X R'
    rwa [slf] at this
  obtain ⟨x, hxm⟩ : ∃ x, z.R[m]? = some x := ⟨_, List.getElem?_eq_getElem (by rw [hI.l]; exact m8)⟩
  have gx : z.R.getD m z0 = x := by rw [List.getD_eq_getElem?_getD, hxm]; rfl
  have g3 : ((fwC z z.R).drop (5 + m * 2)).take 2 = [.b x.is, .u x.ln] := fwC_get hxm
  have lF : ∀ R, R.length = 8 → (fwC z R).length = 343 := fun R hR => fwC_len hR hI.lm
  have l0 := lF z.R hI.l
  have lK := lF (killL z.R (linL a b c s) m 8) (by rw [killL_len]; exact hI.l)
  have wF : ∀ R q, R.length = 8 → wr (fwC z R) (5 + m * 2) (slC q) = fwC z (R.set m q) := fun R q hR => fwC_wr hR m8 q
  have w0 : ∀ q u, wr (fwC z z.R) (5 + m * 2) [.b q, .u u] = fwC z (z.R.set m ⟨q, u⟩) := fun q u => wF z.R ⟨q, u⟩ hI.l
  have wK : ∀ q u, wr (fwC z (killL z.R (linL a b c s) m 8)) (5 + m * 2) [.b q, .u u] = fwC z ((killL z.R (linL a b c s) m 8).set m ⟨q, u⟩) := fun q u => wF _ ⟨q, u⟩ (by rw [killL_len]; exact hI.l)
  have g6 : 5 + m * 2 + 2 ≤ 343 := by omega
  have i8 : inR (8 * s) := ⟨by omega, by omega⟩
  have w8 : w64 (8 * s) = 8 * s := w64_d (by omega) (by omega)
  have lw : s_low [.c (.u d), .c (.i (8 * s))] = some (.c (.u (lowU d (8 * s)))) := by rw [s_low_eq, if_pos i8]
  by_cases k3 : k = 3
  · subst k3
    have eW : wWr z m ⟨3, a, b, c, s, op, d, o, lv⟩ = some d := by unfold wWr; rw [if_pos hok, if_pos rfl]
    have eD : wD z m ⟨3, a, b, c, s, op, d, o, lv⟩ = 0#64 := by unfold wD; rw [if_pos hok, if_pos rfl]
    have eG : wG z m ⟨3, a, b, c, s, op, d, o, lv⟩ = false := by unfold wG; rw [if_pos hok, if_neg (show ¬ (3 : Int) = 6 by decide), if_neg (show ¬ (3 : Int) = 8 by decide)]
    have eB : wB z m ⟨3, a, b, c, s, op, d, o, lv⟩ = layP z.B a b c s d := by unfold wB; rw [eW]
    have eR : wR z m ⟨3, a, b, c, s, op, d, o, lv⟩ = killL z.R (linL a b c s) m 8 := by unfold wR wR1; rw [if_pos hok, if_neg (show ¬ (3 : Int) = 5 by decide), if_neg (show ¬ (3 : Int) = 6 by decide), eW]
    rw [eD, eG, eB, eR]
    (try simp (config := { maxSteps := 10000000 }) only [go_sem, seval, lr, ro, rt, pt, hx0, hx1, fn, p3, gH, gN, sN]; repeat (simp (disch := omega) only [w64_d, ipos, ineg, dpos, dneg]; try simp (config := { maxSteps := 10000000 }) only [go_sem, seval, lr, ro, rt, pt, hx0, hx1, fn, p3, gH, gN, sN]))
    exact fin_fp anG_bel (subH_app _ _) (bb _ _) (by rw [fwSet_len]; exact Nat.le_refl _)
  by_cases k4 : k = 4
  · subst k4
    have eW : wWr z m ⟨4, a, b, c, s, op, d, o, lv⟩ = some (amoU op (wV z ⟨4, a, b, c, s, op, d, o, lv⟩) d) := by unfold wWr; rw [if_pos hok, if_neg (show ¬ (4 : Int) = 3 by decide), if_pos rfl]
    have eD : wD z m ⟨4, a, b, c, s, op, d, o, lv⟩ = wV z ⟨4, a, b, c, s, op, d, o, lv⟩ := by unfold wD; rw [if_pos hok, if_neg (show ¬ (4 : Int) = 3 by decide), if_neg (show ¬ (4 : Int) = 6 by decide)]
    have eG : wG z m ⟨4, a, b, c, s, op, d, o, lv⟩ = false := by unfold wG; rw [if_pos hok, if_neg (show ¬ (4 : Int) = 6 by decide), if_neg (show ¬ (4 : Int) = 8 by decide)]
    have eB : wB z m ⟨4, a, b, c, s, op, d, o, lv⟩ = layP z.B a b c s (amoU op (wV z ⟨4, a, b, c, s, op, d, o, lv⟩) d) := by unfold wB; rw [eW]
    have eR : wR z m ⟨4, a, b, c, s, op, d, o, lv⟩ = killL z.R (linL a b c s) m 8 := by unfold wR wR1; rw [if_pos hok, if_neg (show ¬ (4 : Int) = 5 by decide), if_neg (show ¬ (4 : Int) = 6 by decide), eW]
    rw [eD, eG, eB, eR]
    generalize wV z ⟨4, a, b, c, s, op, d, o, lv⟩ = V at *
    (try simp (config := { maxSteps := 10000000 }) only [go_sem, seval, s_amoDo_eq, lr, ro, rt, pt, hx0, hx1, fn, p3, gH, gN, sN]; repeat (simp (disch := omega) only [w64_d, ipos, ineg, dpos, dneg]; try simp (config := { maxSteps := 10000000 }) only [go_sem, seval, s_amoDo_eq, lr, ro, rt, pt, hx0, hx1, fn, p3, gH, gN, sN]))
    exact fin_fp anG_bel (subH_app _ _) (bb _ _) (by rw [fwSet_len]; exact Nat.le_refl _)
  by_cases k5 : k = 5
  · subst k5
    have eW : wWr z m ⟨5, a, b, c, s, op, d, o, lv⟩ = none := by unfold wWr; rw [if_pos hok]; rfl
    have eD : wD z m ⟨5, a, b, c, s, op, d, o, lv⟩ = wV z ⟨5, a, b, c, s, op, d, o, lv⟩ := by unfold wD; rw [if_pos hok, if_neg (show ¬ (5 : Int) = 3 by decide), if_neg (show ¬ (5 : Int) = 6 by decide)]
    have eG : wG z m ⟨5, a, b, c, s, op, d, o, lv⟩ = false := by unfold wG; rw [if_pos hok, if_neg (show ¬ (5 : Int) = 6 by decide), if_neg (show ¬ (5 : Int) = 8 by decide)]
    have eB : wB z m ⟨5, a, b, c, s, op, d, o, lv⟩ = z.B := by unfold wB; rw [eW]
    have eR : wR z m ⟨5, a, b, c, s, op, d, o, lv⟩ = z.R.set m ⟨true, a / 64#64⟩ := by unfold wR; rw [if_pos hok, if_pos rfl, Int.toNat_natCast]
    rw [eD, eG, eB, eR]
    generalize wV z ⟨5, a, b, c, s, op, d, o, lv⟩ = V at *
    (try simp (config := { maxSteps := 10000000 }) only [go_sem, seval, lr, ro, rt, pt, hx0, hx1, fn, oX, l0, mI, m0, g6, w0, sX, gH, gN, sN, Int.toNat_natCast]; repeat (simp (disch := omega) only [w64_d, ipos, ineg, dpos, dneg]; try simp (config := { maxSteps := 10000000 }) only [go_sem, seval, lr, ro, rt, pt, hx0, hx1, fn, oX, l0, mI, m0, g6, w0, sX, gH, gN, sN, Int.toNat_natCast]))
    exact fin_fp anG_bel (subH_app _ _) (bb _ _) (by rw [fwSet_len]; exact Nat.le_refl _)
  by_cases k6 : k = 6
  · subst k6
    have eD : wD z m ⟨6, a, b, c, s, op, d, o, lv⟩ = 0#64 := by unfold wD; rw [if_pos hok, if_neg (show ¬ (6 : Int) = 3 by decide), if_pos rfl]
    have eG : wG z m ⟨6, a, b, c, s, op, d, o, lv⟩ = wSc z m ⟨6, a, b, c, s, op, d, o, lv⟩ := by unfold wG; rw [if_pos hok, if_pos rfl]
    have eS : wSc z m ⟨6, a, b, c, s, op, d, o, lv⟩ = (lv && (x.is && decide (x.ln = a / 64#64))) := by unfold wSc; simp only [Int.toNat_natCast, gx]
    rw [eD, eG]
    cases hg : wSc z m ⟨6, a, b, c, s, op, d, o, lv⟩
    · have eW : wWr z m ⟨6, a, b, c, s, op, d, o, lv⟩ = none := by unfold wWr; rw [if_pos hok, if_neg (show ¬ (6 : Int) = 3 by decide), if_neg (show ¬ (6 : Int) = 4 by decide), if_pos rfl, hg]; rfl
      have eB : wB z m ⟨6, a, b, c, s, op, d, o, lv⟩ = z.B := by unfold wB; rw [eW]
      have eR : wR z m ⟨6, a, b, c, s, op, d, o, lv⟩ = z.R.set m z0 := by unfold wR wR1; rw [if_pos hok, if_neg (show ¬ (6 : Int) = 5 by decide), if_pos rfl, eW, Int.toNat_natCast]
      have w00 : wr (fwC z z.R) (5 + m * 2) [.b false, .u 0#64] = fwC z (z.R.set m z0) := w0 _ _
      rw [eB, eR]
      rw [hg] at eS
      cases lv
      · (try simp (config := { maxSteps := 10000000 }) only [go_sem, seval, lr, ro, rt, pt, hx0, hx1, fn, oX, l0, mI, m0, g6, w00, sX, gH, gN, sN, Int.toNat_natCast]; repeat (simp (disch := omega) only [w64_d, ipos, ineg, dpos, dneg]; try simp (config := { maxSteps := 10000000 }) only [go_sem, seval, lr, ro, rt, pt, hx0, hx1, fn, oX, l0, mI, m0, g6, w00, sX, gH, gN, sN, Int.toNat_natCast]))
        exact fin_fp anG_bel (subH_app _ _) (bb _ _) (by rw [fwSet_len]; exact Nat.le_refl _)
      · rw [Bool.true_and] at eS
        cases hxi : x.is
        · rw [hxi] at g3
          (try simp (config := { maxSteps := 10000000 }) only [go_sem, seval, lr, ro, rt, pt, hx0, hx1, fn, oX, l0, mI, m0, g3, g6, w00, sX, gH, gN, sN, Int.toNat_natCast]; repeat (simp (disch := omega) only [w64_d, ipos, ineg, dpos, dneg]; try simp (config := { maxSteps := 10000000 }) only [go_sem, seval, lr, ro, rt, pt, hx0, hx1, fn, oX, l0, mI, m0, g3, g6, w00, sX, gH, gN, sN, Int.toNat_natCast]))
          exact fin_fp anG_bel (subH_app _ _) (bb _ _) (by rw [fwSet_len]; exact Nat.le_refl _)
        · rw [hxi] at g3 eS
          rw [Bool.true_and] at eS
          have eS := of_decide_eq_false eS.symm
          (try simp (config := { maxSteps := 10000000 }) only [go_sem, seval, lr, ro, rt, pt, hx0, hx1, fn, oX, l0, mI, m0, g3, g6, w00, sX, gH, gN, sN, eS, Int.toNat_natCast]; repeat (simp (disch := omega) only [w64_d, ipos, ineg, dpos, dneg]; try simp (config := { maxSteps := 10000000 }) only [go_sem, seval, lr, ro, rt, pt, hx0, hx1, fn, oX, l0, mI, m0, g3, g6, w00, sX, gH, gN, sN, eS, Int.toNat_natCast]))
          exact fin_fp anG_bel (subH_app _ _) (bb _ _) (by rw [fwSet_len]; exact Nat.le_refl _)
    · have eW : wWr z m ⟨6, a, b, c, s, op, d, o, lv⟩ = some (lowU d (8 * s)) := by unfold wWr; rw [if_pos hok, if_neg (show ¬ (6 : Int) = 3 by decide), if_neg (show ¬ (6 : Int) = 4 by decide), if_pos rfl, hg]; rfl
      have eB : wB z m ⟨6, a, b, c, s, op, d, o, lv⟩ = layP z.B a b c s (lowU d (8 * s)) := by unfold wB; rw [eW]
      have eR : wR z m ⟨6, a, b, c, s, op, d, o, lv⟩ = (killL z.R (linL a b c s) m 8).set m z0 := by unfold wR wR1; rw [if_pos hok, if_neg (show ¬ (6 : Int) = 5 by decide), if_pos rfl, eW, Int.toNat_natCast]
      have wK0 : wr (fwC z (killL z.R (linL a b c s) m 8)) (5 + m * 2) [.b false, .u 0#64] = fwC z ((killL z.R (linL a b c s) m 8).set m z0) := wK _ _
      rw [eB, eR]
      rw [hg] at eS
      have eS := eS.symm
      simp only [Bool.and_eq_true, decide_eq_true_eq] at eS
      obtain ⟨rfl, e1, e2⟩ := eS
      rw [e1, e2] at g3
      (try simp (config := { maxSteps := 10000000 }) only [go_sem, seval, lr, ro, rt, pt, hx0, hx1, fn, oX, l0, lK, mI, m0, g3, g6, wK0, w8, lw, p3, gP, sP, gH, gN, sN, Int.toNat_natCast]; repeat (simp (disch := omega) only [w64_d, ipos, ineg, dpos, dneg]; try simp (config := { maxSteps := 10000000 }) only [go_sem, seval, lr, ro, rt, pt, hx0, hx1, fn, oX, l0, lK, mI, m0, g3, g6, wK0, w8, lw, p3, gP, sP, gH, gN, sN, Int.toNat_natCast]))
      exact fin_fp anG_bel (subH_app _ _) (bb _ _) (by rw [fwSet_len]; exact Nat.le_refl _)
  by_cases k8 : k = 8
  · subst k8
    have eD : wD z m ⟨8, a, b, c, s, op, d, o, lv⟩ = wV z ⟨8, a, b, c, s, op, d, o, lv⟩ := by unfold wD; rw [if_pos hok, if_neg (show ¬ (8 : Int) = 3 by decide), if_neg (show ¬ (8 : Int) = 6 by decide)]
    have eG : wG z m ⟨8, a, b, c, s, op, d, o, lv⟩ = decide (wV z ⟨8, a, b, c, s, op, d, o, lv⟩ = o) := by unfold wG; rw [if_pos hok, if_neg (show ¬ (8 : Int) = 6 by decide), if_pos rfl]
    rw [eD, eG]
    by_cases hv : wV z ⟨8, a, b, c, s, op, d, o, lv⟩ = o
    · have eW : wWr z m ⟨8, a, b, c, s, op, d, o, lv⟩ = some d := by unfold wWr; rw [if_pos hok, if_neg (show ¬ (8 : Int) = 3 by decide), if_neg (show ¬ (8 : Int) = 4 by decide), if_neg (show ¬ (8 : Int) = 6 by decide), if_pos rfl, if_pos hv]
      have eB : wB z m ⟨8, a, b, c, s, op, d, o, lv⟩ = layP z.B a b c s d := by unfold wB; rw [eW]
      have eR : wR z m ⟨8, a, b, c, s, op, d, o, lv⟩ = killL z.R (linL a b c s) m 8 := by unfold wR wR1; rw [if_pos hok, if_neg (show ¬ (8 : Int) = 5 by decide), if_neg (show ¬ (8 : Int) = 6 by decide), eW]
      rw [eB, eR]
      generalize wV z ⟨8, a, b, c, s, op, d, o, lv⟩ = V at *
      have hv' := eq_true hv
      (try simp (config := { maxSteps := 10000000 }) only [go_sem, seval, lr, ro, rt, pt, hx0, hx1, fn, hv', p3, gH, gN, sN]; repeat (simp (disch := omega) only [w64_d, ipos, ineg, dpos, dneg]; try simp (config := { maxSteps := 10000000 }) only [go_sem, seval, lr, ro, rt, pt, hx0, hx1, fn, hv', p3, gH, gN, sN]))
      exact fin_fp anG_bel (subH_app _ _) (bb _ _) (by rw [fwSet_len]; exact Nat.le_refl _)
    · have eW : wWr z m ⟨8, a, b, c, s, op, d, o, lv⟩ = none := by unfold wWr; rw [if_pos hok, if_neg (show ¬ (8 : Int) = 3 by decide), if_neg (show ¬ (8 : Int) = 4 by decide), if_neg (show ¬ (8 : Int) = 6 by decide), if_pos rfl, if_neg hv]
      have eB : wB z m ⟨8, a, b, c, s, op, d, o, lv⟩ = z.B := by unfold wB; rw [eW]
      have eR : wR z m ⟨8, a, b, c, s, op, d, o, lv⟩ = z.R := by unfold wR wR1; rw [if_pos hok, if_neg (show ¬ (8 : Int) = 5 by decide), if_neg (show ¬ (8 : Int) = 6 by decide), eW]
      rw [eB, eR, slf]
      generalize wV z ⟨8, a, b, c, s, op, d, o, lv⟩ = V at *
      have hv' := eq_false hv
      (try simp (config := { maxSteps := 10000000 }) only [go_sem, seval, lr, ro, rt, pt, hx0, hx1, fn, hv', p3, gH, gN, sN]; repeat (simp (disch := omega) only [w64_d, ipos, ineg, dpos, dneg]; try simp (config := { maxSteps := 10000000 }) only [go_sem, seval, lr, ro, rt, pt, hx0, hx1, fn, hv', p3, gH, gN, sN]))
      exact fin_fp anG_bel (subH_app _ _) hH (Nat.le_refl _)
  have eW : wWr z m ⟨k, a, b, c, s, op, d, o, lv⟩ = none := by unfold wWr; rw [if_pos hok, if_neg k3, if_neg k4, if_neg k6, if_neg k8]
  have eD : wD z m ⟨k, a, b, c, s, op, d, o, lv⟩ = wV z ⟨k, a, b, c, s, op, d, o, lv⟩ := by unfold wD; rw [if_pos hok, if_neg k3, if_neg k6]
  have eG : wG z m ⟨k, a, b, c, s, op, d, o, lv⟩ = false := by unfold wG; rw [if_pos hok, if_neg k6, if_neg k8]
  have eB : wB z m ⟨k, a, b, c, s, op, d, o, lv⟩ = z.B := by unfold wB; rw [eW]
  have eR : wR z m ⟨k, a, b, c, s, op, d, o, lv⟩ = z.R := by unfold wR wR1; rw [if_pos hok, if_neg k5, if_neg k6, eW]
  rw [eD, eG, eB, eR, slf]
  generalize wV z ⟨k, a, b, c, s, op, d, o, lv⟩ = V at *
  (try simp (config := { maxSteps := 10000000 }) only [go_sem, seval, lr, ro, rt, pt, hx0, hx1, fn, k3, k4, k5, k6, k8]; repeat (simp (disch := omega) only [w64_d, ipos, ineg, dpos, dneg]; try simp (config := { maxSteps := 10000000 }) only [go_sem, seval, lr, ro, rt, pt, hx0, hx1, fn, k3, k4, k5, k6, k8]))
  exact fin_fp anG_bel (subH_app _ _) hH (Nat.le_refl _)
def s_fdoW (args : List AV) (H : AH) : Option (AV × AH) :=
  match args with
  | [.c (.p p 0 0), .c (.i h), .g (.i k :: .u a :: .u b :: .i c :: .i s :: .i op :: .u d :: .u o :: .b lv :: r)] =>
    match fwQ H p with
    | some z => if askR r ∧ k ≤ 8 then some (.t [.g (anC (wD z h ⟨k, a, b, c, s, op, d, o, lv⟩) (wG z h ⟨k, a, b, c, s, op, d, o, lv⟩)), .c (.b (wOk z h ⟨k, a, b, c, s, op, d, o, lv⟩))], fwSet H z (wB z h ⟨k, a, b, c, s, op, d, o, lv⟩) (wR z h ⟨k, a, b, c, s, op, d, o, lv⟩)) else none
    | none => none
  | _ => none
theorem s_fdoW_eq {z : Fw} (hI : FwI H z) {h k : Int} {a b : BitVec 64} {c s op : Int} {d o : BitVec 64} {lv : Bool} {r : List Sc} (hr : askR r) (hk : k ≤ 8) :
    s_fdoW [.c (.p z.p 0 0), .c (.i h), .g (.i k :: .u a :: .u b :: .i c :: .i s :: .i op :: .u d :: .u o :: .b lv :: r)] H = some (.t [.g (anC (wD z h ⟨k, a, b, c, s, op, d, o, lv⟩) (wG z h ⟨k, a, b, c, s, op, d, o, lv⟩)), .c (.b (wOk z h ⟨k, a, b, c, s, op, d, o, lv⟩))], fwSet H z (wB z h ⟨k, a, b, c, s, op, d, o, lv⟩) (wR z h ⟨k, a, b, c, s, op, d, o, lv⟩)) := by
  simp only [s_fdoW, fwQ_of hI]; rw [if_pos ⟨hr, hk⟩]
theorem len_fdoW (args : List AV) (H : AH) (v : AV) (H1 : AH) (h : s_fdoW args H = some (v, H1)) : H.length ≤ H1.length := by
  unfold s_fdoW at h
  repeat' split at h
  all_goals simp at h
  rw [← h.2, fwSet_len]; exact Nat.le_refl _
theorem anC_len (d : BitVec 64) (g : Bool) : (anC d g).length = 42 := by unfold anC; simp [zMl_len]
theorem anC_one (d : BitVec 64) (g : Bool) : (anC d g).all Sc.one = true := by unfold anC; simp [Sc.one, zMl_one]
theorem anC_take (d : BitVec 64) (g : Bool) : (anC d g).take 42 = anC d g := List.take_of_length_le (by rw [anC_len]; exact Nat.le_refl _)
set_option maxRecDepth 100000 in
set_option maxHeartbeats 4000000 in
theorem ok_fdoW : FpOk Tryz.prog 8 s_fdoW := by
  refine fp_ok (s := s_fdoW) (tab := [(15, .fq s_fmayW), (32, .pu s_egroup), (33, .fp s_fmemW)]) hmix (TabOk.cons (e := .fq s_fmayW) ok_fmayW (TabOk.cons (e := .pu s_egroup) ok_egroup (TabOk.cons (e := .fp s_fmemW) ok_fmemW TabOk.nil))) Tryz.func8 rfl Tryz.results8 Tryz.ntmps8 (by kernel_rfl) (by kernel_rfl) len_fdoW ?_
  intro args H v H1 h hargs hH
  unfold s_fdoW at h
  split at h <;> try (simp at h; done)
  rename_i p h0 k a b c s op d o lv r
  split at h <;> try (simp at h; done)
  rename_i z hz
  split at h <;> try (simp at h; done)
  rename_i hc
  obtain ⟨hr, hk⟩ := hc
  simp only [Option.some.injEq, Prod.mk.injEq] at h
  obtain ⟨rfl, rfl⟩ := h
  obtain ⟨hI, rfl⟩ := fwQ_inv hz
  have hr' := hr
  obtain ⟨lr, pr, ro⟩ := hr'
  refine ⟨by simp only [List.length_cons, List.length_nil]; decide, ?_⟩
  have rt : r.take 10 = r := List.take_of_length_le (by omega)
  have my := fun X => s_fmayW_eq (h := h0) (k := k) (a := a) (b := b) (c := c) (s := s) (op := op) (d := d) (o := o) (lv := lv) (hI.app X) hr hk
  have slf := hI.self
  cases hok : wOk z h0 ⟨k, a, b, c, s, op, d, o, lv⟩
  · have eD : wD z h0 ⟨k, a, b, c, s, op, d, o, lv⟩ = 0#64 := by unfold wD; rw [if_neg (by simp [hok])]
    have eG : wG z h0 ⟨k, a, b, c, s, op, d, o, lv⟩ = false := by unfold wG; rw [if_neg (by simp [hok])]
    have eW : wWr z h0 ⟨k, a, b, c, s, op, d, o, lv⟩ = none := by unfold wWr; rw [if_neg (by simp [hok])]
    have eB : wB z h0 ⟨k, a, b, c, s, op, d, o, lv⟩ = z.B := by unfold wB; rw [eW]
    have eR : wR z h0 ⟨k, a, b, c, s, op, d, o, lv⟩ = z.R := by unfold wR; rw [if_neg (by simp [hok])]
    rw [eD, eG, eB, eR, slf]
    (try simp (config := { maxSteps := 10000000 }) only [go_sem, seval, lr, ro, rt, my, hok]; repeat (simp (disch := omega) only [w64_d, ipos, ineg, dpos, dneg]; try simp (config := { maxSteps := 10000000 }) only [go_sem, seval, lr, ro, rt, my, hok]))
    exact fin_fp anT_bel (subH_app _ _) hH (Nat.le_refl _)
  · have gk : groupI k = 1 := by
      have h1 := hok
      unfold wOk at h1
      rw [Bool.and_eq_true] at h1
      exact form_k h1.1
    have mm := fun X => s_fmemW_eq (h := h0) (k := k) (a := a) (b := b) (c := c) (s := s) (op := op) (d := d) (o := o) (lv := lv) (hI.app X) hr hok
    simp only [fwSet_app hI] at mm
    have bb := fun B R => hI.bel hH B R
    have gH : ∀ B R X, hg (fwSet H z B R ++ X) H.length = hg X 0 := fun B R X => by rw [← fwSet_len (H := H) (s := z) (B := B) (R := R), hg_len]
    have gN : ∀ B R X n, hg (fwSet H z B R ++ X) (H.length + n) = hg X n := fun B R X n => by rw [← fwSet_len (H := H) (s := z) (B := B) (R := R), hg_len_add]
    have sN : ∀ B R X n o, (fwSet H z B R ++ X).set (H.length + n) o = fwSet H z B R ++ X.set n o := fun B R X n o => by rw [← fwSet_len (H := H) (s := z) (B := B) (R := R), set_len_add]
    have al := anC_len (wD z h0 ⟨k, a, b, c, s, op, d, o, lv⟩) (wG z h0 ⟨k, a, b, c, s, op, d, o, lv⟩)
    have a1 := anC_one (wD z h0 ⟨k, a, b, c, s, op, d, o, lv⟩) (wG z h0 ⟨k, a, b, c, s, op, d, o, lv⟩)
    have at' := anC_take (wD z h0 ⟨k, a, b, c, s, op, d, o, lv⟩) (wG z h0 ⟨k, a, b, c, s, op, d, o, lv⟩)
    have ab : ∀ n, (anC (wD z h0 ⟨k, a, b, c, s, op, d, o, lv⟩) (wG z h0 ⟨k, a, b, c, s, op, d, o, lv⟩)).all (Sc.bel n) = true := fun n => anC_bel
    generalize anC (wD z h0 ⟨k, a, b, c, s, op, d, o, lv⟩) (wG z h0 ⟨k, a, b, c, s, op, d, o, lv⟩) = Q at *
    (try simp (config := { maxSteps := 10000000 }) only [go_sem, seval, s_egroup_eq, gk, lr, ro, rt, my, hok, mm, gH, gN, sN, al, a1, at']; repeat (simp (disch := omega) only [w64_d, ipos, ineg, dpos, dneg]; try simp (config := { maxSteps := 10000000 }) only [go_sem, seval, s_egroup_eq, gk, lr, ro, rt, my, hok, mm, gH, gN, sN, al, a1, at']))
    exact fin_fp (by simp [AV.bel, ab, Sc.bel]) (subH_app _ _) (bb _ _) (by rw [fwSet_len]; exact Nat.le_refl _)
end
end
end Go.Proofs.YtcbhelkafelofaaGreat
namespace Go.Proofs.YtcbhelkafelofaaGreat
open Go.Am
set_option linter.unusedSimpArgs false
set_option linter.unusedVariables false
noncomputable section
set_option maxRecDepth 100000

theorem off_same (x : BitVec 64) : offW x = offN x := by rw [ofF_eq, offN_eq]
theorem hasF_B {n : Nat} {x : BitVec 64} {m : Int} : hasF (64 * n) x m = hasB n x m := by unfold hasF hasB; rw [off_same]
theorem has_bytes {n : Nat} (hn : n ≤ 4096) {a : BitVec 64} {m : Int} (h1 : 1 ≤ m) (h8 : m ≤ 8) : hasB n a m = true ↔ ∀ j : Int, 0 ≤ j → j < m → hasB n (a + BitVec.ofInt 64 j) 1 = true := by
  constructor
  · intro h j j0 j1
    have e := off_add hn h j0 j1
    have h' := h
    rw [hasB_iff] at h'
    have e0 : (BitVec.ofInt 64 j).toNat = j.toNat := by rw [BitVec.toNat_ofInt]; omega
    have e2 : (a + BitVec.ofInt 64 j).toNat = a.toNat + j.toNat := by
      rw [BitVec.toNat_add, e0]
      have := a.isLt
      rw [offN_eq] at h'
      omega
    rw [hasB_iff, e, e2]
    omega
  · intro h
    have z := h 0 (by omega) (by omega)
    have z1 : a + BitVec.ofInt 64 0 = a := BitVec.add_zero _
    rw [z1, hasB_iff] at z
    have y := h (m - 1) (by omega) (by omega)
    rw [hasB_iff] at y
    have e0 : (BitVec.ofInt 64 (m - 1)).toNat = (m - 1).toNat := by rw [BitVec.toNat_ofInt]; omega
    have z' := z
    rw [offN_eq] at z'
    have e2 : (a + BitVec.ofInt 64 (m - 1)).toNat = a.toNat + (m - 1).toNat := by
      rw [BitVec.toNat_add, e0]
      have := a.isLt
      omega
    rw [offN_eq, e2] at y
    rw [hasB_iff]
    rw [offN_eq] at z ⊢
    omega
theorem all_bytesF {n : Nat} (hn : n ≤ 4096) {B : Int → BitVec 64} {l : List Pc} : ∀ {m : Int}, 0 ≤ m → gd2 B l m → ((l.all fun p => hasB n p.a p.n) = true ↔ ∀ i : Int, m ≤ i → i < m + tot l → hasB n (B i) 1 = true) := by
  induction l with
  | nil => intro m _ _; simp only [List.all_nil, tot]; exact ⟨fun _ i h1 h2 => by omega, fun _ => trivial⟩
  | cons p l ih =>
    intro m h0 h
    obtain ⟨a1, a2, a3, a4, a6⟩ := h
    have ih := ih (by omega) a6
    have t0 := tot_drop a6 0
    rw [List.drop_zero] at t0
    have pb := has_bytes hn (a := p.a) a2 (by omega)
    rw [List.all_cons, Bool.and_eq_true, ih, pb]
    simp only [tot]
    constructor
    · rintro ⟨h1, h2⟩ i i1 i2
      by_cases c : i < m + p.n
      · have e := (a4 (i - m) (by omega) (by omega)).1
        rw [show m + (i - m) = i by omega] at e
        rw [e]; exact h1 _ (by omega) (by omega)
      · exact h2 i (by omega) (by omega)
    · intro h
      refine ⟨fun j j0 j1 => ?_, fun i i1 i2 => h i (by omega) (by omega)⟩
      have e := (a4 j j0 j1).1
      rw [← e]; exact h _ (by omega) (by omega)
theorem has_parts {n : Nat} (hn : n ≤ 4096) {a b : BitVec 64} {c s : Int} (h : smB c s = true) : hasP (64 * n) a b c s = ((accP a b c s).all fun p => hasB n p.a p.n) := by
  have hm : 1 ≤ s ∧ s ≤ 8 ∧ 0 ≤ c ∧ c < s := by simpa [smB] using h
  have e := all_bytesF hn (Int.le_refl 0) (gd2_acc (a := a) (b := b) h)
  rw [(good_acc (a := a) (b := b) h).2.1, Int.zero_add] at e
  rw [Bool.eq_iff_iff, e]
  unfold hasP
  by_cases c0 : c = 0
  · subst c0
    rw [if_pos rfl, hasF_B, has_bytes hn (by omega) (by omega)]
    have q : ∀ i : Int, byteU a b 0 i = a + BitVec.ofInt 64 i := fun i => by unfold byteU; rw [if_neg (by omega)]
    simp only [q]
  · rw [if_neg c0, Bool.and_eq_true, hasF_B, hasF_B, has_bytes hn (by omega) (by omega), has_bytes hn (by omega) (by omega)]
    constructor
    · rintro ⟨h1, h2⟩ i i0 i1
      unfold byteU
      by_cases ci : c ≤ i
      · rw [if_pos ⟨by omega, ci⟩]; exact h2 _ (by omega) (by omega)
      · rw [if_neg (by omega)]; exact h1 _ i0 (by omega)
    · intro h
      refine ⟨fun j j0 j1 => ?_, fun j j0 j1 => ?_⟩
      · have := h j j0 (by omega)
        unfold byteU at this
        rwa [if_neg (by omega)] at this
      · have := h (c + j) (by omega) (by omega)
        unfold byteU at this
        rwa [if_pos (by omega), show c + j - c = j by omega] at this
def byN (f : Nat → BitVec 8) (N : Nat) : List Int := (List.range N).map fun j => ((f j).toNat : Int)
theorem byN_len {f : Nat → BitVec 8} {N : Nat} : (byN f N).length = N := by simp [byN]
theorem byN_at {f : Nat → BitVec 8} {N j : Nat} (h : j < N) : (byN f N)[j]? = some ((f j).toNat : Int) := by
  unfold byN
  rw [List.getElem?_map, List.getElem?_range h]; rfl
theorem byN_by {f : Nat → BitVec 8} {N : Nat} : ∀ x ∈ byN f N, 0 ≤ x ∧ x ≤ 255 := fun x hx => by
  unfold byN at hx
  obtain ⟨j, _, rfl⟩ := List.mem_map.1 hx
  have := (f j).isLt
  omega
theorem numW_bit {L : List Int} (hL : ∀ x ∈ L, 0 ≤ x ∧ x ≤ 255) {i : Nat} (hi : i < 64) : (numW L).getLsbD i = ((L.getD (i / 8) 0).toNat).testBit (i % 8) := by
  induction L generalizing i with
  | nil => simp [numW]
  | cons b L ih =>
    have hb := hL b (by simp)
    obtain ⟨n, rfl⟩ : ∃ n : Nat, b = (n : Int) := ⟨b.toNat, by omega⟩
    have hn : n < 256 := by omega
    show (stF (n : Int) (numW L)).getLsbD i = _
    unfold stF
    have eb : (BitVec.ofInt 64 (n : Int)).getLsbD i = n.testBit i := by
      rw [BitVec.getLsbD, BitVec.toNat_ofInt]
      congr 1
      omega
    rw [BitVec.getLsbD_or, BitVec.getLsbD_shiftLeft, eb]
    by_cases c : i < 8
    · rw [show i / 8 = 0 by omega, show i % 8 = i by omega]
      simp [c]
    · have e0 : n.testBit i = false := by
        apply Nat.testBit_lt_two_pow
        have : 2 ^ 8 ≤ 2 ^ i := Nat.pow_le_pow_right (by decide) (by omega)
        have e8 : (2 : Nat) ^ 8 = 256 := rfl
        omega
      obtain ⟨j, rfl⟩ : ∃ j, i = j + 8 := ⟨i - 8, by omega⟩
      rw [e0, show j + 8 - 8 = j by omega, ih (fun x hx => hL x (by simp [hx])) (by omega), show (j + 8) / 8 = j / 8 + 1 by omega, show (j + 8) % 8 = j % 8 by omega]
      simp [c, hi]
theorem num_cut {f : Nat → BitVec 8} {N o n : Nat} (h : o + n ≤ N) (h8 : n ≤ 8) : numW (((byN f N).drop o).take n) = rdB f o n := by
  unfold rdB
  refine ofG_ext fun i hi => ?_
  rw [numW_bit (fun x hx => byN_by x (List.mem_of_mem_drop (List.mem_of_mem_take hx))) hi, List.getD_eq_getElem?_getD, List.getElem?_take]
  by_cases c : i / 8 < n
  · rw [if_pos c, List.getElem?_drop, byN_at (by omega), decide_eq_true (by omega)]
    simp [BitVec.getLsbD]
  · rw [if_neg c, decide_eq_false (by omega)]
    simp
theorem wV_get {n : Nat} (hn : n ≤ 4096) {M : Nat × MapE} {a b : BitVec 64} {c s : Int} (hm : smB c s = true) (hp : hasP (64 * n) a b c s = true) : numW (btsW (byN (memB M.2) (64 * n)) a b c s) = getA M.2 (byteU a b c) s := by
  have hm' : 1 ≤ s ∧ s ≤ 8 ∧ 0 ≤ c ∧ c < s := by simpa [smB] using hm
  unfold getA
  refine ofG_ext fun i hi => ?_
  unfold hasP at hp
  by_cases c0 : c = 0
  · subst c0
    rw [if_pos rfl, hasF_B] at hp
    have h' := hp
    rw [hasB_iff] at h'
    unfold btsW
    rw [if_pos rfl, off_same, num_cut (by omega) (by omega)]
    unfold rdB
    rw [ofG_get hi]
    by_cases ci : i / 8 < s.toNat
    · have e := off_add hn hp (j := ((i / 8 : Nat) : Int)) (by omega) (by omega)
      unfold byteU
      rw [if_neg (by omega), e, Int.toNat_natCast, decide_eq_true (by omega), decide_eq_true (by omega)]
    · rw [decide_eq_false (by omega), decide_eq_false (by omega)]; rfl
  · rw [if_neg c0, Bool.and_eq_true, hasF_B, hasF_B] at hp
    obtain ⟨p1, p2⟩ := hp
    have h1 := p1
    have h2 := p2
    rw [hasB_iff] at h1 h2
    unfold btsW
    rw [if_neg c0, off_same, off_same]
    have l1 : (((byN (memB M.2) (64 * n)).drop (offN a)).take c.toNat).length = c.toNat := by rw [List.length_take, List.length_drop, byN_len]; omega
    rw [numW_bit (fun x hx => by
      rcases List.mem_append.1 hx with g | g
      · exact byN_by x (List.mem_of_mem_drop (List.mem_of_mem_take g))
      · exact byN_by x (List.mem_of_mem_drop (List.mem_of_mem_take g))) hi, List.getD_eq_getElem?_getD]
    by_cases c1 : i / 8 < c.toNat
    · have e := off_add hn p1 (j := ((i / 8 : Nat) : Int)) (by omega) (by omega)
      unfold byteU
      rw [List.getElem?_append_left (by omega), List.getElem?_take_of_lt c1, List.getElem?_drop, byN_at (by omega), if_neg (by omega), e, Int.toNat_natCast, decide_eq_true (by omega)]
      simp [BitVec.getLsbD]
    · rw [List.getElem?_append_right (by omega), l1]
      by_cases c2 : i / 8 < s.toNat
      · have e := off_add hn p2 (j := ((i / 8 : Nat) : Int) - c) (by omega) (by omega)
        unfold byteU
        rw [List.getElem?_take_of_lt (by omega), List.getElem?_drop, byN_at (by omega), if_pos (by omega), e, decide_eq_true (by omega), show (((i / 8 : Nat) : Int) - c).toNat = i / 8 - c.toNat by omega]
        simp [BitVec.getLsbD]
      · rw [List.getElem?_eq_none (by rw [List.length_take]; omega), decide_eq_false (by omega)]
        simp
def wrW (f : Nat → BitVec 8) (A : Nat → Nat) (v : BitVec 64) (m : Nat) : Nat → Nat → BitVec 8
  | 0 => f
  | k + 1 => fun j => if j = A (m + k) then (v >>> (8 * (m + k))).setWidth 8 else wrW f A v m k j
theorem wrW_add {f : Nat → BitVec 8} {A : Nat → Nat} {v : BitVec 64} {m k : Nat} : ∀ {l : Nat}, wrW f A v m (k + l) = wrW (wrW f A v m k) A v (m + k) l
  | 0 => rfl
  | l + 1 => by
    funext j
    show (if j = A (m + (k + l)) then (v >>> (8 * (m + (k + l)))).setWidth 8 else wrW f A v m (k + l) j) = (if j = A (m + k + l) then (v >>> (8 * (m + k + l))).setWidth 8 else wrW (wrW f A v m k) A v (m + k) l j)
    rw [wrW_add (l := l), Nat.add_assoc]
theorem wrW_run {f : Nat → BitVec 8} {A : Nat → Nat} {v : BitVec 64} {m o : Nat} : ∀ {k : Nat}, (∀ i, i < k → A (m + i) = o + i) → ∀ j, wrW f A v m k j = if o ≤ j ∧ j < o + k then (v >>> (8 * (m + (j - o)))).setWidth 8 else f j
  | 0, _, j => by rw [if_neg (by omega)]; rfl
  | k + 1, h, j => by
    show (if j = A (m + k) then _ else wrW f A v m k j) = _
    rw [h k (by omega), wrW_run (fun i hi => h i (by omega)) j]
    by_cases c : j = o + k
    · rw [if_pos c, if_pos (by omega)]
      congr 3
      omega
    · rw [if_neg c]
      by_cases c2 : o ≤ j ∧ j < o + k
      · rw [if_pos c2, if_pos (by omega)]
      · rw [if_neg c2, if_neg (by omega)]
theorem part_byte {v : BitVec 64} {n m : Int} (h1 : 1 ≤ n) (h0 : 0 ≤ m) (h8 : m + n ≤ 8) {i : Nat} (hi : (i : Int) < n) : ((partU v n (8 * m)) >>> (8 * i)).setWidth 8 = (v >>> (8 * (m.toNat + i))).setWidth 8 := by
  have hr : rightB n (8 * m) = true := by simp [rightB]; omega
  unfold partU
  rw [if_pos hr]
  apply BitVec.eq_of_getLsbD_eq
  intro j hj
  rw [BitVec.getLsbD_setWidth, BitVec.getLsbD_setWidth, BitVec.getLsbD_ushiftRight, BitVec.getLsbD_ushiftRight]
  unfold cutU bitB
  rw [ofG_get (by omega), decide_eq_true (by omega)]
  have e : (8 * m + ((8 * i + j : Nat) : Int)).toNat = 8 * (m.toNat + i) + j := by omega
  simp only [e, Bool.true_and]
  rw [decide_eq_true (show (0 : Int) ≤ 8 * m + ((8 * i + j : Nat) : Int) by omega), decide_eq_true (show 8 * m + ((8 * i + j : Nat) : Int) ≤ 63 by omega), decide_eq_true (show ((8 * i + j : Nat) : Int) < 8 * n by omega)]
  rfl
theorem stA_wrW {N : Nat} (hN : N ≤ 4096) {B : Int → BitVec 64} {v : BitVec 64} {l : List Pc} : ∀ {m : Int} {M : Nat × MapE}, 0 ≤ m → gd2 B l m → wfE N M → (∀ p ∈ l, hasB N p.a p.n = true) → memB (stA M l v).2 = wrW (memB M.2) (fun i => offN (B i)) v m.toNat (tot l).toNat := by
  induction l with
  | nil => intro m M _ _ _ _; rfl
  | cons p l ih =>
    intro m M h0 hg hM hh
    obtain ⟨a1, a2, a3, a4, a6⟩ := hg
    have hp := hh p (by simp)
    have hp' := hp
    rw [hasB_iff] at hp'
    have t0 := tot_drop a6 0
    rw [List.drop_zero] at t0
    have w1 : wfE N (stM M (offN p.a) p.n.toNat (partU v p.n p.s)) := wfE_stM hM (by omega) (by omega) (by omega)
    have e := ih (m := m + p.n) (M := stM M (offN p.a) p.n.toNat (partU v p.n p.s)) (by omega) a6 w1 (fun q hq => hh q (by simp [hq]))
    have e1 : memB (stM M (offN p.a) p.n.toNat (partU v p.n p.s)).2 = wrW (memB M.2) (fun i => offN (B i)) v m.toNat p.n.toNat := by
      funext j
      rw [memB_st hM (by omega) (by omega) (by omega), wrW_run (o := offN p.a) (fun i hi => ?_)]
      · by_cases c : offN p.a ≤ j ∧ j < offN p.a + p.n.toNat
        · rw [if_pos c, if_pos c, a1]
          exact part_byte a2 h0 a3 (by omega)
        · rw [if_neg c, if_neg c]
      · have q := (a4 (i : Int) (by omega) (by omega)).1
        rw [show ((m.toNat + i : Nat) : Int) = m + (i : Int) by omega, q, off_add hN hp (by omega) (by omega), Int.toNat_natCast]
    show memB (stA (stM M (offN p.a) p.n.toNat (partU v p.n p.s)) l v).2 = _
    rw [e, e1]
    show _ = wrW _ _ _ _ (p.n + tot l).toNat
    rw [show (p.n + tot l).toNat = p.n.toNat + (tot l).toNat by omega, wrW_add, show (m + p.n).toNat = m.toNat + p.n.toNat by omega]
theorem layB_byN {f : Nat → BitVec 8} {A : Nat → Nat} {v : BitVec 64} {N o k m : Nat} (hA : ∀ i, i < k → A (m + i) = o + i) (h : o + k ≤ N) : layB (byN f N) o (lbL (v >>> (8 * m)) k) = byN (wrW f A v m k) N := by
  apply List.ext_getElem?
  intro j
  have e := wrW_run (f := f) (v := v) hA j
  have l1 : ((byN f N).take o).length = o := by rw [List.length_take, byN_len]; omega
  rcases Nat.lt_or_ge j N with hj | hj
  · rw [byN_at hj, e]
    unfold layB
    rw [lbL_len]
    by_cases c1 : j < o
    · rw [if_neg (by omega), List.append_assoc, List.getElem?_append_left (by omega), List.getElem?_take_of_lt c1, byN_at hj]
    · by_cases c2 : j < o + k
      · rw [if_pos (by omega), List.getElem?_append_left (by rw [List.length_append, l1, lbL_len]; omega), List.getElem?_append_right (by omega), l1]
        unfold lbL
        rw [List.getElem?_map, List.getElem?_range (by omega)]
        show some (lbW (v >>> (8 * m)) (j - o)) = _
        unfold lbW
        rw [← BitVec.shiftRight_add, show 8 * m + 8 * (j - o) = 8 * (m + (j - o)) by omega]
      · rw [if_neg (by omega), List.getElem?_append_right (by rw [List.length_append, l1, lbL_len]; omega), List.length_append, l1, lbL_len, List.getElem?_drop, show o + k + (j - (o + k)) = j by omega, byN_at hj]
  · rw [List.getElem?_eq_none (by rw [layB_len (by rw [lbL_len, byN_len]; exact h), byN_len]; exact hj), List.getElem?_eq_none (by rw [byN_len]; exact hj)]
theorem lay_byN {n : Nat} (hn : n ≤ 4096) {f : Nat → BitVec 8} {a b : BitVec 64} {c s : Int} {v : BitVec 64} (hm : smB c s = true) (hp : hasP (64 * n) a b c s = true) : layP (byN f (64 * n)) a b c s v = byN (wrW f (fun i => offN (byteU a b c i)) v 0 s.toNat) (64 * n) := by
  have hm' : 1 ≤ s ∧ s ≤ 8 ∧ 0 ≤ c ∧ c < s := by simpa [smB] using hm
  unfold hasP at hp
  unfold layP
  by_cases c0 : c = 0
  · subst c0
    rw [if_pos rfl, hasF_B] at hp
    have h' := hp
    rw [hasB_iff] at h'
    rw [if_pos rfl, off_same]
    have := layB_byN (f := f) (A := fun i => offN (byteU a b 0 i)) (v := v) (N := 64 * n) (o := offN a) (k := s.toNat) (m := 0) (fun i hi => ?_) (by omega)
    · simpa using this
    · show offN (byteU a b 0 ((0 + i : Nat) : Int)) = _
      unfold byteU
      rw [if_neg (by omega), off_add hn hp (by omega) (by omega), Nat.zero_add, Int.toNat_natCast]
  · rw [if_neg c0, Bool.and_eq_true, hasF_B, hasF_B] at hp
    obtain ⟨p1, p2⟩ := hp
    have h1 := p1
    have h2 := p2
    rw [hasB_iff] at h1 h2
    rw [if_neg c0, off_same, off_same]
    have e1 := layB_byN (f := f) (A := fun i => offN (byteU a b c i)) (v := v) (N := 64 * n) (o := offN a) (k := c.toNat) (m := 0) (fun i hi => by
      show offN (byteU a b c ((0 + i : Nat) : Int)) = _
      unfold byteU
      rw [if_neg (by omega), off_add hn p1 (by omega) (by omega), Nat.zero_add, Int.toNat_natCast]) (by omega)
    have e2 := layB_byN (f := wrW f (fun i => offN (byteU a b c i)) v 0 c.toNat) (A := fun i => offN (byteU a b c i)) (v := v) (N := 64 * n) (o := offN b) (k := (s - c).toNat) (m := c.toNat) (fun i hi => by
      show offN (byteU a b c ((c.toNat + i : Nat) : Int)) = _
      unfold byteU
      rw [if_pos (by omega), off_add hn p2 (by omega) (by omega)]
      omega) (by omega)
    rw [Nat.mul_zero, BitVec.ushiftRight_zero] at e1
    rw [e1, e2, show s.toNat = c.toNat + (s - c).toNat by omega, wrW_add, Nat.zero_add]
theorem lay_st {n : Nat} (hn : n ≤ 4096) {M : Nat × MapE} (hw : wfE n M) {a b : BitVec 64} {c s : Int} {v : BitVec 64} (hm : smB c s = true) (hp : hasP (64 * n) a b c s = true) : layP (byN (memB M.2) (64 * n)) a b c s v = byN (memB (stA M (accP a b c s) v).2) (64 * n) := by
  rw [lay_byN hn hm hp]
  rw [has_parts hn hm] at hp
  have := stA_wrW hn (v := v) (Int.le_refl 0) (gd2_acc (a := a) (b := b) hm) hw (fun p hq => List.all_eq_true.1 hp p hq)
  rw [this, (good_acc (a := a) (b := b) hm).2.1]; rfl
theorem lbL_low {v : BitVec 64} {s : Int} {m k : Nat} (h : ((m + k : Nat) : Int) ≤ s) (h8 : s ≤ 8) : lbL ((lowU v (8 * s)) >>> (8 * m)) k = lbL (v >>> (8 * m)) k := by
  unfold lbL
  refine List.map_congr_left fun i hi => ?_
  rw [List.mem_range] at hi
  unfold lbW
  congr 2
  apply BitVec.eq_of_getLsbD_eq
  intro j hj
  simp only [BitVec.getLsbD_setWidth, BitVec.getLsbD_ushiftRight]
  unfold lowU
  rw [ofG_get (by omega), decide_eq_true (show ((8 * m + (8 * i + j) : Nat) : Int) < 8 * s by omega), Bool.true_and]
theorem layP_low {B : List Int} {a b : BitVec 64} {c s : Int} {v : BitVec 64} (hm : smB c s = true) : layP B a b c s (lowU v (8 * s)) = layP B a b c s v := by
  have hm' : 1 ≤ s ∧ s ≤ 8 ∧ 0 ≤ c ∧ c < s := by simpa [smB] using hm
  unfold layP
  by_cases c0 : c = 0
  · rw [if_pos c0, if_pos c0]
    have := lbL_low (v := v) (s := s) (m := 0) (k := s.toNat) (by omega) (by omega)
    simp only [Nat.mul_zero, BitVec.ushiftRight_zero] at this
    rw [this]
  · rw [if_neg c0, if_neg c0]
    have e1 := lbL_low (v := v) (s := s) (m := 0) (k := c.toNat) (by omega) (by omega)
    have e2 := lbL_low (v := v) (s := s) (m := c.toNat) (k := (s - c).toNat) (by omega) (by omega)
    simp only [Nat.mul_zero, BitVec.ushiftRight_zero] at e1
    rw [e1, e2]
end
end Go.Proofs.YtcbhelkafelofaaGreat
