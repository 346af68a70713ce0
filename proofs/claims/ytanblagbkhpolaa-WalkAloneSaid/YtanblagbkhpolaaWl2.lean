/- A walk in a memory that nobody else changes: it is found again: plain. -/
import Derived.Test.YtanblagbkhpolaaWl1
namespace Go.Proofs.Ytanblagbkhpolaa
open Go.Am
set_option linter.unusedSimpArgs false
set_option linter.unusedVariables false
noncomputable section

theorem kind_c (p : BitVec 64) (l : Int) : kindU p l = 0 ∨ kindU p l = 1 ∨ kindU p l = 2 := by
  unfold kindU
  by_cases c1 : l < 0
  · rw [if_pos c1]; exact .inl rfl
  rw [if_neg c1]
  by_cases c2 : 2 < l
  · rw [if_pos c2]; exact .inl rfl
  rw [if_neg c2]
  by_cases c3 : bitB p 0 = false
  · rw [if_pos c3]; exact .inl rfl
  rw [if_neg c3]
  by_cases c4 : bitB p 2 = true ∧ bitB p 1 = false
  · rw [if_pos c4]; exact .inl rfl
  rw [if_neg c4]
  by_cases c5 : p >>> 54 ≠ 0#64
  · rw [if_pos c5]; exact .inl rfl
  rw [if_neg c5]
  by_cases c6 : bitB p 1 = true ∨ bitB p 3 = true
  · rw [if_pos c6]
    by_cases c7 : lowU (cutU p 10 44) (9 * l) ≠ 0#64
    · rw [if_pos c7]; exact .inl rfl
    · rw [if_neg c7]; exact .inr (.inr rfl)
  · rw [if_neg c6]
    by_cases c7 : l = 0
    · rw [if_pos c7]; exact .inl rfl
    rw [if_neg c7]
    by_cases c8 : bitB p 4 = true ∨ bitB p 6 = true ∨ bitB p 7 = true
    · rw [if_pos c8]; exact .inl rfl
    · rw [if_neg c8]; exact .inr (.inl rfl)
theorem thN_end {z : ShS} {f : Nat} {t : Ts} (h : endedW t.w = true) : thN z (f + 1) t = ⟨endI t.w, endE t.w, t.a, t.b, decide (t.w.ag = 0), t.M, t.R⟩ := by
  show (if endedW t.w = true then _ else _) = _
  rw [if_pos h]
theorem thN_go {z : ShS} {f : Nat} {t : Ts} (h : endedW t.w = false) (ok : dOk (z.to t.M t.R) 0 (askQ t.w) = true) : thN z (f + 1) t = thN z f (stT z t) := by
  show (if endedW t.w = true then _ else if dOk (z.to t.M t.R) 0 (askQ t.w) = true then _ else _) = _
  rw [if_neg (by simp [h]), if_pos ok]
theorem Wat.ne {n l : Nat} {s : Wst} (h : Wat n s l) : endedW s = false := by unfold endedW; rw [h.m, h.e]; rfl
theorem tell_0 {s : Wst} {d : BitVec 64} (ne : endedW s = false) (k : s.mrk = false) (h : kindU d s.lv = 0) : tellW s d false = { s with et := d, en := 2 } := by
  unfold tellW
  rw [if_neg (by rw [ne]; decide), if_neg (by rw [k]; decide), if_pos h]
theorem tell_1 {s : Wst} {d : BitVec 64} (ne : endedW s = false) (k : s.mrk = false) (h : kindU d s.lv = 1) : tellW s d false = lookW { s with et := d } (cutU d 10 44) (w64 (s.lv - 1)) := by
  unfold tellW
  rw [if_neg (by rw [ne]; decide), if_neg (by rw [k]; decide), if_neg (by rw [h]; decide), if_pos h]
theorem tell_n {s : Wst} {d : BitVec 64} (ne : endedW s = false) (k : s.mrk = false) (h : kindU d s.lv = 2) (p : ¬ letsB d s.ac s.pr s.su s.mx = true) : tellW s d false = { s with et := d, en := 2 } := by
  unfold tellW
  rw [if_neg (by rw [ne]; decide), if_neg (by rw [k]; decide), if_neg (by rw [h]; decide), if_neg (by rw [h]; decide), if_neg p]
theorem tell_f {s : Wst} {d : BitVec 64} (ne : endedW s = false) (k : s.mrk = false) (h : kindU d s.lv = 2) (p : letsB d s.ac s.pr s.su s.mx = true) (m : markU d s.ac = d) : tellW s d false = { s with et := d, en := 1, mrk := false } := by
  unfold tellW
  rw [if_neg (by rw [ne]; decide), if_neg (by rw [k]; decide), if_neg (by rw [h]; decide), if_neg (by rw [h]; decide), if_pos p, if_pos m]
theorem tell_m {s : Wst} {d : BitVec 64} (ne : endedW s = false) (k : s.mrk = false) (h : kindU d s.lv = 2) (p : letsB d s.ac s.pr s.su s.mx = true) (m : ¬ markU d s.ac = d) : tellW s d false = { s with et := d, mrk := true } := by
  unfold tellW
  rw [if_neg (by rw [ne]; decide), if_neg (by rw [k]; decide), if_neg (by rw [h]; decide), if_neg (by rw [h]; decide), if_pos p, if_neg m]
theorem tell_g {s : Wst} {d : BitVec 64} (ne : endedW s = false) (k : s.mrk = true) : tellW s d true = { s with et := markU s.et s.ac, en := 1, mrk := false } := by
  unfold tellW
  rw [if_neg (by rw [ne]; decide), if_pos k, if_pos rfl]
theorem ended_e {s : Wst} {e : Int} (h : s.en = e) (he : ¬ e = 0) : endedW s = true := by unfold endedW; rw [h, decide_eq_false he]; simp
/-- one look -/
theorem look_1 {z : ShS} {l : Nat} {t : Ts} (hh : z.h = 1) (h : Wat z.ram.n t.w l) (f : Nat) : thN z (f + 1) t = thN z f ⟨tellW t.w (rd8 t.M t.w.at_) false, t.M, t.R, t.a + 1, t.b⟩ := by
  have e : askQ t.w = wkQ t.w.at_ := by unfold askQ; rw [h.k]; rfl
  have ok := wk_ok (z := z.to t.M t.R) (a := t.w.at_) h.a hh
  obtain ⟨d1, d2, d3, d4⟩ := wk_do (z := z.to t.M t.R) (a := t.w.at_) h.a hh
  rw [thN_go h.ne (by rw [e]; exact ok)]
  congr 1
  unfold stT tkA tkB
  rw [e, d1, d2, d3, d4, h.k]
  rfl
def failW (t : Ts) (o : To) : Prop := (o.e = 2 ∨ o.e = 3) ∧ o.x = entC 0#64 0 0#64 ∧ o.b = t.b
structure fndW (z : ShS) (l : Nat) (t : Ts) (o : To) (lv : Int) (at' d : BitVec 64) : Prop where
  e : o.e = 1
  x : o.x = entC (vpageU t.w.va lv) lv (markU d t.w.ac)
  k : kindU d lv = 2
  p : letsB d t.w.ac t.w.pr t.w.su t.w.mx = true
  a : okA z.ram.n at'
  r : rd8 t.M at' = d
  s : ∀ b, okA z.ram.n b → b ≠ at' → rd8 o.M b = rd8 t.M b
  w : wfE z.ram.n o.M
  rl : o.R.length = 8
  again : ∀ t2 : Ts, t2.w = t.w → t2.M = o.M → t2.R.length = 8 → ∀ f, l + 3 ≤ f → (thN z f t2).e = 1 ∧ (thN z f t2).x = o.x ∧ (thN z f t2).b = t2.b ∧ (thN z f t2).q = true
theorem endE_no {s : Wst} (h : s.en ≠ 1) : endE s = entC 0#64 0 0#64 := by unfold endE; rw [if_neg (fun c => h c.2)]
/-- a leaf that is found without a mark -/
theorem leaf_no {z : ShS} {l : Nat} {t : Ts} (hh : z.h = 1) (h : Wat z.ram.n t.w l) {d : BitVec 64} (hd : rd8 t.M t.w.at_ = d) (k : kindU d l = 2) (p : letsB d t.w.ac t.w.pr t.w.su t.w.mx = true) (m : markU d t.w.ac = d) (f : Nat) :
    thN z (f + 2) t = ⟨1, entC (vpageU t.w.va l) l d, t.a + 1, t.b, true, t.M, t.R⟩ := by
  rw [look_1 hh h, hd]
  rw [tell_f h.ne h.k (by rw [h.v]; exact k) p m]
  rw [thN_end (t := ⟨{ t.w with et := d, en := 1, mrk := false }, t.M, t.R, t.a + 1, t.b⟩) (ended_e (e := 1) rfl (by decide))]
  simp only [To.mk.injEq, and_true]
  refine ⟨?_, ?_, ?_⟩
  · unfold endI; simp [h.m]
  · unfold endE; simp [h.m, h.v]
  · simp [h.g]
theorem run_l {z : ShS} (hh : z.h = 1) (n1 : 1 ≤ z.ram.n) (n2 : z.ram.n ≤ 4096) : ∀ (l : Nat), l ≤ 2 → ∀ t : Ts, Wat z.ram.n t.w l → wfE z.ram.n t.M → t.R.length = 8 → ∀ f, l + 3 ≤ f →
    (thN z f t).q = true ∧ (thN z f t).a ≤ t.a + l + 1 ∧ (thN z f t).b ≤ t.b + 1 ∧ (failW t (thN z f t) ∨ ∃ lv at' d, fndW z l t (thN z f t) lv at' d)
  | l, hl, t, h, hw, hR, f, hf => by
    obtain ⟨f, rfl⟩ : ∃ g, f = g + 1 := ⟨f - 1, by omega⟩
    obtain ⟨d, hd⟩ : ∃ d, rd8 t.M t.w.at_ = d := ⟨_, rfl⟩
    have L := look_1 hh h f
    rw [hd] at L
    have ne := h.ne
    rcases kind_c d l with k | k | k
    · -- no entry
      obtain ⟨f, rfl⟩ : ∃ g, f = g + 1 := ⟨f - 1, by omega⟩
      rw [tell_0 ne h.k (by rw [h.v]; exact k), thN_end (t := ⟨{ t.w with et := d, en := 2 }, t.M, t.R, t.a + 1, t.b⟩) (ended_e (e := 2) rfl (by decide))] at L
      rw [L]
      refine ⟨by simp [h.g], by simp only; omega, by simp only; omega, .inl ⟨.inl (by unfold endI; simp [h.m]), endE_no (by simp), rfl⟩⟩
    · -- it leads
      obtain ⟨l1, _⟩ := kind_1 k
      obtain ⟨m, rfl⟩ : ∃ m, l = m + 1 := ⟨l - 1, by omega⟩
      have w1 : w64 (t.w.lv - 1) = (m : Int) := by rw [h.v, w64_d (by omega) (by omega)]; omega
      have e : tellW t.w d false = lookW { t.w with et := d } (cutU d 10 44) m := by
        rw [tell_1 ne h.k (by rw [h.v]; exact k), w1]
      rcases look_at n1 n2 (s := { t.w with et := d }) h.m h.e h.g h.n (cutU d 10 44) m with W | ⟨E1, E2, E3, E4⟩
      · rw [e] at L
        have ih := run_l hh n1 n2 m (by omega) ⟨lookW { t.w with et := d } (cutU d 10 44) m, t.M, t.R, t.a + 1, t.b⟩ W hw hR f (by omega)
        rw [← L] at ih
        obtain ⟨i1, i2, i3, i4⟩ := ih
        refine ⟨i1, by simp only at i2; omega, i3, ?_⟩
        rcases i4 with F | ⟨lv, at', d', F⟩
        · exact .inl F
        · right
          refine ⟨lv, at', d', F.e, F.x, F.k, F.p, F.a, F.r, F.s, F.w, F.rl, ?_⟩
          intro t2 e2 M2 R2 g hg
          obtain ⟨g, rfl⟩ : ∃ g', g = g' + 1 := ⟨g - 1, by omega⟩
          have na : t.w.at_ ≠ at' := fun c => by
            have r := F.r
            simp only at r
            rw [← c, hd] at r
            rw [r] at k
            exact kind_12 k F.k
          have rd2 : rd8 t2.M t2.w.at_ = d := by rw [M2, e2, F.s _ h.a na]; exact hd
          have h2 : Wat z.ram.n t2.w (m + 1) := by rw [e2]; exact h
          have L2 := look_1 hh h2 g
          rw [rd2, e2, e] at L2
          rw [L2]
          exact F.again ⟨lookW { t.w with et := d } (cutU d 10 44) m, t2.M, t2.R, t2.a + 1, t2.b⟩ rfl M2 R2 g (by omega)
      · rw [e] at L
        obtain ⟨f, rfl⟩ : ∃ g, f = g + 1 := ⟨f - 1, by omega⟩
        rw [thN_end (t := ⟨lookW { t.w with et := d } (cutU d 10 44) m, t.M, t.R, t.a + 1, t.b⟩) E1] at L
        rw [L]
        refine ⟨by simp only [E4, decide_true], by simp only; omega, by simp only; omega, .inl ⟨.inr (by simp only [endI, E3, if_true, E2]), endE_no (by simp only; rw [E2]; decide), rfl⟩⟩
    · -- a leaf
      by_cases p : letsB d t.w.ac t.w.pr t.w.su t.w.mx = true
      · have K2 := mark_kind d t.w.ac l k
        have P2 : letsB (markU d t.w.ac) t.w.ac t.w.pr t.w.su t.w.mx = true := by rw [mark_lets]; exact p
        by_cases m : markU d t.w.ac = d
        · obtain ⟨f, rfl⟩ : ∃ g, f = g + 1 := ⟨f - 1, by omega⟩
          have N := leaf_no hh h hd k p m f
          rw [N]
          refine ⟨rfl, by simp only; omega, by simp only; omega, .inr ⟨l, t.w.at_, d, rfl, by rw [m], k, p, h.a, hd, fun _ _ _ => rfl, hw, hR, ?_⟩⟩
          intro t2 e2 M2 R2 g hg
          obtain ⟨g, rfl⟩ : ∃ g', g = g' + 2 := ⟨g - 2, by omega⟩
          have h2 : Wat z.ram.n t2.w l := by rw [e2]; exact h
          rw [leaf_no hh h2 (d := d) (by rw [M2, e2]; exact hd) k (by rw [e2]; exact p) (by rw [e2]; exact m) g, e2]
          exact ⟨rfl, rfl, rfl, rfl⟩
        · rw [tell_m ne h.k (by rw [h.v]; exact k) p m] at L
          obtain ⟨f, rfl⟩ : ∃ g, f = g + 2 := ⟨f - 2, by omega⟩
          have ne2 : endedW { t.w with et := d, mrk := true } = false := by unfold endedW; simp [h.m, h.e]
          have aq : askQ { t.w with et := d, mrk := true } = mkQ t.w.at_ (markU d t.w.ac) d := by unfold askQ; rfl
          have ok := mk_ok (z := z.to t.M t.R) (d := markU d t.w.ac) (o := d) h.a hh
          obtain ⟨g1, g2⟩ := mk_do (z := z.to t.M t.R) (d := markU d t.w.ac) (o := d) h.a hh hd
          rw [thN_go (t := ⟨{ t.w with et := d, mrk := true }, t.M, t.R, t.a + 1, t.b⟩) ne2 (by rw [aq]; exact ok)] at L
          have st : stT z ⟨{ t.w with et := d, mrk := true }, t.M, t.R, t.a + 1, t.b⟩ = ⟨{ t.w with et := markU d t.w.ac, en := 1, mrk := false }, stA t.M [⟨t.w.at_, 8, 0⟩] (markU d t.w.ac), dR (z.to t.M t.R) 0 (mkQ t.w.at_ (markU d t.w.ac) d), t.a + 1, t.b + 1⟩ := by
            have tg := fun x => tell_g (s := { t.w with et := d, mrk := true }) (d := x) ne2 rfl
            unfold stT tkA tkB
            simp only [aq, g1, g2, if_true]
            rw [tg]
            rfl
          rw [st, thN_end (t := ⟨{ t.w with et := markU d t.w.ac, en := 1, mrk := false }, stA t.M [⟨t.w.at_, 8, 0⟩] (markU d t.w.ac), dR (z.to t.M t.R) 0 (mkQ t.w.at_ (markU d t.w.ac) d), t.a + 1, t.b + 1⟩) (ended_e (e := 1) rfl (by decide))] at L
          have r8 : (dR (z.to t.M t.R) 0 (mkQ t.w.at_ (markU d t.w.ac) d)).length = 8 := dR_len (z := z.to t.M t.R) hR
          have wf : wfE z.ram.n (stA t.M [⟨t.w.at_, 8, 0⟩] (markU d t.w.ac)) := stA_wf hw fun q hq => by
            rw [List.mem_singleton] at hq
            subst hq
            exact ⟨h.a.1, Int.le_refl 8⟩
          generalize dR (z.to t.M t.R) 0 (mkQ t.w.at_ (markU d t.w.ac) d) = R' at *
          rw [L]
          refine ⟨by simp [h.g], by simp only; omega, by simp only; omega, .inr ⟨l, t.w.at_, d, by unfold endI; simp [h.m], by unfold endE; simp [h.m, h.v], k, p, h.a, hd, fun b hb nb => rd_other n2 hw h.a hb nb, wf, r8, ?_⟩⟩
          intro t2 e2 M2 R2 g hg
          obtain ⟨g, rfl⟩ : ∃ g', g = g' + 2 := ⟨g - 2, by omega⟩
          have h2 : Wat z.ram.n t2.w l := by rw [e2]; exact h
          simp only at M2
          rw [leaf_no hh h2 (d := markU d t.w.ac) (by rw [M2, e2]; exact rd_same n2 hw h.a) K2 (by rw [e2]; exact P2) (by rw [e2]; exact mark_twice d t.w.ac) g, e2]
          exact ⟨rfl, by unfold endE; simp [h.m, h.v], rfl, rfl⟩
      · obtain ⟨f, rfl⟩ : ∃ g, f = g + 1 := ⟨f - 1, by omega⟩
        rw [tell_n ne h.k (by rw [h.v]; exact k) p, thN_end (t := ⟨{ t.w with et := d, en := 2 }, t.M, t.R, t.a + 1, t.b⟩) (ended_e (e := 2) rfl (by decide))] at L
        rw [L]
        refine ⟨by simp [h.g], by simp only; omega, by simp only; omega, .inl ⟨.inl (by unfold endI; simp [h.m]), endE_no (by simp), rfl⟩⟩
/-- a walk from its begin -/
theorem run_q {z : ShS} (hh : z.h = 1) (n1 : 1 ≤ z.ram.n) (n2 : z.ram.n ≤ 4096) {ro va : BitVec 64} {ac pr : Int} {su mx : Bool} {M : Nat × MapE} {R : List Sl} (hw : wfE z.ram.n M) (hR : R.length = 8) :
    ∃ o : To, thN z 20 ⟨beginW z.ram.n ro va ac pr su mx, M, R, 0, 0⟩ = o ∧ o.q = true ∧ o.a ≤ 3 ∧ o.b ≤ 1 ∧
      (((o.e = 2 ∨ o.e = 3) ∧ o.x = entC 0#64 0 0#64 ∧ o.b = 0) ∨ (o.e = 1 ∧ ∃ pg lv d, o.x = entC pg lv (markU d ac) ∧ kindU d lv = 2 ∧ letsB d ac pr su mx = true ∧ wfE z.ram.n o.M ∧ o.R.length = 8 ∧
        ((thN z 20 ⟨beginW z.ram.n ro va ac pr su mx, o.M, o.R, 0, 0⟩).e = 1 ∧ (thN z 20 ⟨beginW z.ram.n ro va ac pr su mx, o.M, o.R, 0, 0⟩).x = o.x ∧ (thN z 20 ⟨beginW z.ram.n ro va ac pr su mx, o.M, o.R, 0, 0⟩).b = 0 ∧ (thN z 20 ⟨beginW z.ram.n ro va ac pr su mx, o.M, o.R, 0, 0⟩).q = true))) := by
  refine ⟨_, rfl, ?_⟩
  unfold beginW
  split
  · rename_i hv
    unfold startW
    rcases look_at n1 n2 (s := ⟨true, z.ram.n, ro, va, ac, pr, su, mx, 0, 0, 0#64, 0#64, false, 0⟩) rfl rfl rfl rfl ro 2 with W | ⟨E1, E2, E3, E4⟩
    · have L := run_l hh n1 n2 2 (by decide) ⟨lookW ⟨true, z.ram.n, ro, va, ac, pr, su, mx, 0, 0, 0#64, 0#64, false, 0⟩ ro 2, M, R, 0, 0⟩ W hw hR 20 (by decide)
      obtain ⟨i1, i2, i3, i4⟩ := L
      refine ⟨i1, Int.le_trans i2 (show (0 : Int) + ((2 : Nat) : Int) + 1 ≤ 3 by decide), Int.le_trans i3 (show (0 : Int) + 1 ≤ 1 by decide), ?_⟩
      rcases i4 with F | ⟨lv, at', d, F⟩
      · exact .inl F
      · exact .inr ⟨F.e, _, lv, d, F.x, F.k, F.p, F.w, F.rl, F.again ⟨lookW ⟨true, z.ram.n, ro, va, ac, pr, su, mx, 0, 0, 0#64, 0#64, false, 0⟩ ro 2, (thN z 20 ⟨lookW ⟨true, z.ram.n, ro, va, ac, pr, su, mx, 0, 0, 0#64, 0#64, false, 0⟩ ro 2, M, R, 0, 0⟩).M, (thN z 20 ⟨lookW ⟨true, z.ram.n, ro, va, ac, pr, su, mx, 0, 0, 0#64, 0#64, false, 0⟩ ro 2, M, R, 0, 0⟩).R, 0, 0⟩ rfl rfl F.rl 20 (by decide)⟩
    · rw [thN_end (f := 19) (t := ⟨lookW ⟨true, z.ram.n, ro, va, ac, pr, su, mx, 0, 0, 0#64, 0#64, false, 0⟩ ro 2, M, R, 0, 0⟩) E1]
      refine ⟨by simp only; exact decide_eq_true E4, by simp only; omega, by simp only; omega, .inl ⟨.inr (by simp only [endI, E3, if_true]; exact E2), endE_no (fun c => absurd (E2.symm.trans c) (by decide)), rfl⟩⟩
  · rw [thN_end (f := 19) (t := ⟨⟨true, z.ram.n, ro, va, ac, pr, su, mx, 2, 0, 0#64, 0#64, false, 0⟩, M, R, 0, 0⟩) rfl]
    exact ⟨rfl, (show (0 : Int) ≤ 3 by decide), (show (0 : Int) ≤ 1 by decide), .inl ⟨.inl rfl, rfl, rfl⟩⟩
end
end Go.Proofs.Ytanblagbkhpolaa
