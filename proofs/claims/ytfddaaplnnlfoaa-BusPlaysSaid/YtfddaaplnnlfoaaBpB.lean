/- Layer 16: the document, part 2: contracts. -/
import Derived.Test.YtfddaaplnnlfoaaBpA
namespace Go.Proofs.Ytfddaaplnnlfoaa
open Go.Am
set_option linter.unusedSimpArgs false
set_option linter.unusedVariables false
noncomputable section

/-! ## XBp4 -/
section
variable {H : AH} {k : Pk}

def wA (w : BitVec 32) (t : Nat) : BitVec 64 := BitVec.ofNat 64 (w.toNat / 2 ^ (32 - t))
theorem wA_step (w : BitVec 32) {t : Nat} (ht : t < 32) : wA w (t + 1) = if w.getLsbD (31 - t) = true then 2#64 * wA w t + 1#64 else 2#64 * wA w t := by
  have e1 : w.toNat / 2 ^ (32 - t) = w.toNat / 2 ^ (31 - t) / 2 := by rw [Nat.div_div_eq_div_mul, ← Nat.pow_succ]; congr 2; omega
  have e2 : w.getLsbD (31 - t) = decide (w.toNat / 2 ^ (31 - t) % 2 = 1) := by simp only [BitVec.getLsbD, Nat.testBit_eq_decide_div_mod_eq]
  have lt : w.toNat / 2 ^ (31 - t) < 4294967296 := Nat.lt_of_le_of_lt (Nat.div_le_self _ _) w.isLt
  unfold wA
  rw [show 32 - (t + 1) = 31 - t by omega, e1, e2]
  generalize w.toNat / 2 ^ (31 - t) = m at *
  by_cases c : m % 2 = 1
  · rw [if_pos (by simp [c])]
    apply BitVec.eq_of_toNat_eq
    simp only [BitVec.toNat_add, BitVec.toNat_mul, BitVec.toNat_ofNat]
    omega
  · rw [if_neg (by simp [c])]
    apply BitVec.eq_of_toNat_eq
    simp only [BitVec.toNat_mul, BitVec.toNat_ofNat]
    omega
def q_r16w (args : List AV) (H : AH) (v : AV) : Prop := ∀ w, args = [.g (rb32 w)] → v = .c (.u (BitVec.ofInt 64 (w.toNat : Int)))
def s_r16word : List AV → AH → Option AV := frQ Try.prog [] 76 q_r16w
set_option maxRecDepth 100000 in
set_option maxHeartbeats 2000000 in
theorem ok_r16word : FpOk Try.prog 76 (fun args H => (s_r16word args H).map fun v => (v, H)) := frQ_ok hmix TabOk.nil Try.func76 rfl Try.results76 Try.ntmps76 (by kernel_rfl) (by kernel_rfl)
theorem s_r16word_eq (w : BitVec 32) : s_r16word [.g (rb32 w)] H = some (.c (.u (BitVec.ofInt 64 (w.toNat : Int)))) := by
  have : ∃ v, s_r16word [.g (rb32 w)] H = some v ∧ q_r16w [.g (rb32 w)] H v := by
    unfold s_r16word
    apply frQ_ex (v := .c (.u (BitVec.ofInt 64 (w.toNat : Int)))) Try.func76 rfl Try.results76 Try.ntmps76 (by simp only [List.length_cons, List.length_nil]; decide)
    · exact fun _ _ => rfl
    · intro _ hH
      have ll := rb32_l w
      have lo : (rb32 w).all Sc.one = true := rb32_all (fun _ => rfl) w
      have e32 : wA w 32 = BitVec.ofInt 64 (w.toNat : Int) := by
        unfold wA
        rw [Nat.sub_self, Nat.pow_zero, Nat.div_one]; rfl
      have e00 : wA w 0 = 0#64 := by
        unfold wA
        rw [show w.toNat / 2 ^ (32 - 0) = 0 from Nat.div_eq_of_lt w.isLt]
      rw [← e32]
      (try simp (config := { maxSteps := 10000000 }) only [go_sem, seval, ll, lo]; repeat (simp (disch := omega) only [w64_d, ipos, ineg, dpos, dneg]; try simp (config := { maxSteps := 10000000 }) only [go_sem, seval, ll, lo]))
      refine arun_for 32 (fun t => ([(1, .c (.p H.length 0 0)), (3, .c (.u (wA w t))), (4, .c (.i (31 - (t : Int))))], H ++ [.own (rb32 w)])) (Wk.fq (by simp [Am.get, e00])) fun t ht => ?_
      by_cases hlt : t < 32
      · have e0 : 0 ≤ 31 - (t : Int) := by omega
        have e1 : w64 (31 - (t : Int) - 1) = 31 - ((t + 1 : Nat) : Int) := by rw [w64_d (by omega) (by omega)]; omega
        have e2 : (31 - (t : Int)).toNat = 31 - t := by omega
        have g2 : 31 - (t : Int) < 32 := by omega
        have hi : 31 - t < 32 := by omega
        have db : (rb32 w).getD (31 - t) .any = .b (w.getLsbD (31 - t)) := by rw [rb_F, rbF_get hi]
        have eS := wA_step w hlt
        cases hb : w.getLsbD (31 - t)
        all_goals rw [hb] at db eS
        all_goals simp only [if_true, if_false, Bool.false_eq_true] at eS
        all_goals (try simp (config := { maxSteps := 10000000 }) only [go_sem, seval, e0, e1, e2, g2, ll, db]; repeat (simp (disch := omega) only [w64_d, ipos, ineg, dpos, dneg]; try simp (config := { maxSteps := 10000000 }) only [go_sem, seval, e0, e1, e2, g2, ll, db]))
        all_goals exact ⟨t + 1, by omega, by omega, Wk.fq (by simp [Am.get, eS])⟩
      · obtain rfl : t = 32 := by omega
        have e0 : ¬ (0 : Int) ≤ 31 - ((32 : Nat) : Int) := by omega
        (try simp (config := { maxSteps := 10000000 }) only [go_sem, seval, e0]; repeat (simp (disch := omega) only [w64_d, ipos, ineg, dpos, dneg]; try simp (config := { maxSteps := 10000000 }) only [go_sem, seval, e0]))
        exact subH_app _ _
    · intro w' he
      simp only [List.cons.injEq, AV.g.injEq, and_true] at he
      obtain rfl := rb32_inj he
      rfl
  obtain ⟨v, h1, h2⟩ := this
  rw [h1, h2 w rfl]
def q_r16l (args : List AV) (H : AH) (v : AV) : Prop := ∀ k c, PkI k → args = [.g (rpk k), .c (.i c)] → v = .c (.b (plLine k c))
def s_r16l : List AV → AH → Option AV := frQ Try.prog [(77, .fq s_r16b)] 82 q_r16l
set_option maxRecDepth 100000 in
set_option maxHeartbeats 2000000 in
theorem ok_r16l : FpOk Try.prog 82 (fun args H => (s_r16l args H).map fun v => (v, H)) := frQ_ok hmix (TabOk.cons (e := .fq s_r16b) ok_r16b TabOk.nil) Try.func82 rfl Try.results82 Try.ntmps82 (by kernel_rfl) (by kernel_rfl)
theorem s_r16l_eq (hk : PkI k) (c : Int) : s_r16l [.g (rpk k), .c (.i c)] H = some (.c (.b (plLine k c))) := by
  have : ∃ v, s_r16l [.g (rpk k), .c (.i c)] H = some v ∧ q_r16l [.g (rpk k), .c (.i c)] H v := by
    unfold s_r16l
    apply frQ_ex (v := .c (.b (plLine k c))) Try.func82 rfl Try.results82 Try.ntmps82 (by simp only [List.length_cons, List.length_nil]; decide)
    · exact fun _ _ => rfl
    · intro _ hH
      have ll := rpk_l hk.ok
      have lo := rpk_one k
      have tt : List.take 657 (rpk k) = rpk k := List.take_of_length_le (by omega)
      have d0 := rp_n k
      have n8 := hk.ok.n1
      have n0 := hk.n0
      have e2 : w64 (2 * k.n) = 2 * k.n := w64_d (by omega) (by omega)
      by_cases k0 : c < 0
      · have e : plLine k c = false := by unfold plLine; rw [decide_eq_false (by omega)]; rfl
        have k0' : ¬ 0 ≤ c := by omega
        rw [e]
        (try simp (config := { maxSteps := 10000000 }) only [go_sem, seval, ll, lo, tt, k0']; repeat (simp (disch := omega) only [w64_d, ipos, ineg, dpos, dneg]; try simp (config := { maxSteps := 10000000 }) only [go_sem, seval, ll, lo, tt, k0']))
        exact subH_app _ _
      have k0' : 0 ≤ c := by omega
      by_cases k1 : 2 * k.n ≤ c
      · have e : plLine k c = false := by unfold plLine; rw [decide_eq_false (by omega)]; rfl
        have k1' : ¬ c < 2 * k.n := by omega
        rw [e]
        (try simp (config := { maxSteps := 10000000 }) only [go_sem, seval, ll, lo, tt, d0, e2, k0', k1']; repeat (simp (disch := omega) only [w64_d, ipos, ineg, dpos, dneg]; try simp (config := { maxSteps := 10000000 }) only [go_sem, seval, ll, lo, tt, d0, e2, k0', k1']))
        exact subH_app _ _
      have k1' : c < 2 * k.n := by omega
      obtain ⟨m, rfl⟩ : ∃ m : Nat, c = (m : Int) := ⟨c.toNat, by omega⟩
      have hm : m < 16 := by omega
      have dl := rp_l hk.ok hm
      have rb := fun H => s_r16b_eq (H := H) hk.ok hm (k.l.getD m 0)
      have e : plLine k m = decide (0 < bstN k.p (k.q &&& k.e.getD m 0#32) (k.l.getD m 0) 31) := by unfold plLine; rw [decide_eq_true (by omega), Int.toNat_natCast]; rfl
      have ez : (0 < ((bstN k.p (k.q &&& k.e.getD m 0#32) (k.l.getD m 0) 31 : Nat) : Int)) = (0 < bstN k.p (k.q &&& k.e.getD m 0#32) (k.l.getD m 0) 31) := propext (by omega)
      rw [e]
      (try simp (config := { maxSteps := 10000000 }) only [go_sem, seval, ll, lo, tt, d0, e2, k0', k1', dl, rb, ez, hm, Int.toNat_natCast]; repeat (simp (disch := omega) only [w64_d, ipos, ineg, dpos, dneg]; try simp (config := { maxSteps := 10000000 }) only [go_sem, seval, ll, lo, tt, d0, e2, k0', k1', dl, rb, ez, hm, Int.toNat_natCast]))
      exact subH_app _ _
    · intro k' c' hk' he
      simp only [List.cons.injEq, AV.g.injEq, AV.c.injEq, Sc.i.injEq, and_true] at he
      obtain ⟨e1, rfl⟩ := he
      obtain rfl := rpk_inj hk.ok hk'.ok e1
      rfl
  obtain ⟨v, h1, h2⟩ := this
  rw [h1, h2 k c hk rfl]
/-! ### wires -/
theorem bit_or {w : BitVec 32} {s : Nat} (hs : s < 32) : ∀ j, j < 32 → (if j = s then true else w.getLsbD j) = (w ||| bitK s).getLsbD j := fun j hj => by
  rw [BitVec.getLsbD_or, bitK_get hj hs]
  by_cases e : j = s <;> simp [e]
theorem bit_an {w : BitVec 32} {s : Nat} (hs : s < 32) : ∀ j, j < 32 → (if j = s then false else w.getLsbD j) = (w &&& ~~~(bitK s)).getLsbD j := fun j hj => by
  rw [BitVec.getLsbD_and, BitVec.getLsbD_not, bitK_get hj hs]
  by_cases e : j = s <;> simp [e, hj]
/-- what waits behind a wire's change -/
theorem bq {w s q : Bool} (h : w = true → s = false → q = true) : (q || (w && (true && !s))) = q := by
  cases w <;> cases s <;> cases q <;> simp_all
theorem set_on {w q s : BitVec 32} {i : Nat} (hi : i < 32) (st : ∀ j, j < 32 → w.getLsbD j = true → s.getLsbD j = false → q.getLsbD j = true) : q ||| (w ||| bitK i) &&& ~~~s = if s.getLsbD i = true then q else q ||| bitK i := by
  refine BitVec.eq_of_getLsbD_eq fun j hj => ?_
  have st := st j hj
  have b := bq st
  rw [BitVec.getLsbD_or, BitVec.getLsbD_and, BitVec.getLsbD_or, BitVec.getLsbD_not, bitK_get hj hi, decide_eq_true hj]
  by_cases hs : s.getLsbD i = true
  · rw [if_pos hs]
    by_cases e : j = i
    · subst e
      rw [hs]; simp
    · rw [decide_eq_false e, Bool.or_false]; exact b
  · rw [if_neg hs, BitVec.getLsbD_or, bitK_get hj hi]
    by_cases e : j = i
    · subst e
      rw [decide_eq_true rfl]
      simp at hs
      rw [hs]; simp
    · rw [decide_eq_false e, Bool.or_false, Bool.or_false]; exact b
theorem set_of {w q s : BitVec 32} {i : Nat} (hi : i < 32) (st : ∀ j, j < 32 → w.getLsbD j = true → s.getLsbD j = false → q.getLsbD j = true) : q ||| (w &&& ~~~(bitK i)) &&& ~~~s = q := by
  refine BitVec.eq_of_getLsbD_eq fun j hj => ?_
  have st := st j hj
  rw [BitVec.getLsbD_or, BitVec.getLsbD_and, BitVec.getLsbD_and, BitVec.getLsbD_not, BitVec.getLsbD_not, bitK_get hj hi, decide_eq_true hj]
  exact bq fun h1 h2 => st (by revert h1; cases w.getLsbD j <;> simp) h2
def q_r16x (args : List AV) (H : AH) (v : AV) : Prop := ∀ k s on, PkI k → args = [.g (rpk k), .c (.i s), .c (.b on)] → v = .t [.g (rpk (plWire k s on)), .c (.b (plWis k s))]
def s_r16x : List AV → AH → Option AV := frQ Try.prog [] 54 q_r16x
set_option maxRecDepth 100000 in
set_option maxHeartbeats 2000000 in
theorem ok_r16x : FpOk Try.prog 54 (fun args H => (s_r16x args H).map fun v => (v, H)) := frQ_ok hmix TabOk.nil Try.func54 rfl Try.results54 Try.ntmps54 (by kernel_rfl) (by kernel_rfl)
theorem s_r16x_eq (hk : PkI k) (s : Int) (on : Bool) : s_r16x [.g (rpk k), .c (.i s), .c (.b on)] H = some (.t [.g (rpk (plWire k s on)), .c (.b (plWis k s))]) := by
  have : ∃ v, s_r16x [.g (rpk k), .c (.i s), .c (.b on)] H = some v ∧ q_r16x [.g (rpk k), .c (.i s), .c (.b on)] H v := by
    unfold s_r16x
    apply frQ_ex (v := .t [.g (rpk (plWire k s on)), .c (.b (plWis k s))]) Try.func54 rfl Try.results54 Try.ntmps54 (by simp only [List.length_cons, List.length_nil]; decide)
    · intro _ _
      show ((rpk _).all (Sc.bel H.length) && (true && true)) = true
      rw [rpk_bel]; rfl
    · intro _ hH
      have LL := fun {k : Pk} (h : PkOk k) => rpk_l h
      have ll := rpk_l hk.ok
      have lo := fun k => rpk_one k
      have tt := fun {k : Pk} (h : PkOk k) => (List.take_of_length_le (by rw [rpk_l h]; exact Nat.le_refl _) : List.take 657 (rpk k) = rpk k)
      have t0 := tt hk.ok
      have d0 := rp_n k
      have n0 := hk.n0
      have nz : (k.n = 0) = False := eq_false (by omega)
      by_cases s1 : s < 1
      · have e1 : plWire k s on = k := if_pos (.inr (.inl s1))
        have e2 : plWis k s = false := by simp [plWis, s1]
        rw [e1, e2]
        (try simp (config := { maxSteps := 10000000 }) only [go_sem, seval, ll, lo, t0, d0, nz, s1]; repeat (simp (disch := omega) only [w64_d, ipos, ineg, dpos, dneg]; try simp (config := { maxSteps := 10000000 }) only [go_sem, seval, ll, lo, t0, d0, nz, s1]))
        exact subH_app _ _
      by_cases s2 : 31 < s
      · have e1 : plWire k s on = k := if_pos (.inr (.inr (by omega)))
        have e2 : plWis k s = false := by simp [plWis, s1, nz]; omega
        rw [e1, e2]
        (try simp (config := { maxSteps := 10000000 }) only [go_sem, seval, ll, lo, t0, d0, nz, s1, s2]; repeat (simp (disch := omega) only [w64_d, ipos, ineg, dpos, dneg]; try simp (config := { maxSteps := 10000000 }) only [go_sem, seval, ll, lo, t0, d0, nz, s1, s2]))
        exact subH_app _ _
      obtain ⟨m, rfl⟩ : ∃ m : Nat, s = (m : Int) := ⟨s.toNat, by omega⟩
      have hm : m < 32 := by omega
      have e2 : plWis k m = true := by simp [plWis, nz, s1]; omega
      have g2 : (m : Int) < 32 := by omega
      have eW : plWire k m on = if on = true then { k with w := k.w ||| bitK m, q := if k.s.getLsbD m = true then k.q else k.q ||| bitK m } else { k with w := k.w &&& ~~~(bitK m) } := by
        unfold plWire
        rw [if_neg (by omega), Int.toNat_natCast]
        cases on
        · rw [if_neg (by decide), if_neg (by decide)]
          show ({ k with w := _, q := k.q ||| (k.w &&& ~~~(bitK m)) &&& ~~~k.s } : Pk) = _
          rw [set_of hm hk.st]
        · rw [if_pos rfl, if_pos rfl]
          show ({ k with w := _, q := k.q ||| (k.w ||| bitK m) &&& ~~~k.s } : Pk) = _
          rw [set_on hm hk.st]
      rw [e2, eW]
      have okW := fun w q => hk.ok.setW w q k.s
      have lW := fun w q => LL (okW w q)
      have tW := fun w q => tt (okW w q)
      have dS := fun w => rp_s (k := { k with w := w }) (okW w k.q) hm
      cases on
      · have w1 := wr_td (wp_w hk.ok hm (bit_an hm))
        have l1 := lW (k.w &&& ~~~(bitK m)) k.q
        have t1 := tW (k.w &&& ~~~(bitK m)) k.q
        simp only [Bool.false_eq_true, if_false]
        (try simp (config := { maxSteps := 10000000 }) only [go_sem, seval, ll, lo, t0, d0, nz, s1, s2, g2, w1, l1, t1, Int.toNat_natCast]; repeat (simp (disch := omega) only [w64_d, ipos, ineg, dpos, dneg]; try simp (config := { maxSteps := 10000000 }) only [go_sem, seval, ll, lo, t0, d0, nz, s1, s2, g2, w1, l1, t1, Int.toNat_natCast]))
        exact subH_app _ _
      · have w1 := wr_td (wp_w hk.ok hm (bit_or hm))
        have l1 := lW (k.w ||| bitK m) k.q
        have t1 := tW (k.w ||| bitK m) k.q
        have ds := dS (k.w ||| bitK m)
        simp only [if_true]
        cases hs : k.s.getLsbD m
        · have ds' : (rpk { k with w := k.w ||| bitK m }).getD (97 + m) .any = .b false := by rw [ds]; exact congrArg Sc.b hs
          have w2 := wr_td (wp_q (k := { k with w := k.w ||| bitK m }) (okW _ _) hm (bit_or hm))
          have l2 := lW (k.w ||| bitK m) (k.q ||| bitK m)
          have t2 := tW (k.w ||| bitK m) (k.q ||| bitK m)
          simp only [Bool.false_eq_true, if_false]
          (try simp (config := { maxSteps := 10000000 }) only [go_sem, seval, ll, lo, t0, d0, nz, s1, s2, g2, w1, l1, ds', w2, l2, t2, Int.toNat_natCast]; repeat (simp (disch := omega) only [w64_d, ipos, ineg, dpos, dneg]; try simp (config := { maxSteps := 10000000 }) only [go_sem, seval, ll, lo, t0, d0, nz, s1, s2, g2, w1, l1, ds', w2, l2, t2, Int.toNat_natCast]))
          exact subH_app _ _
        · have ds' : (rpk { k with w := k.w ||| bitK m }).getD (97 + m) .any = .b true := by rw [ds]; exact congrArg Sc.b hs
          simp only [if_true]
          (try simp (config := { maxSteps := 10000000 }) only [go_sem, seval, ll, lo, t0, d0, nz, s1, s2, g2, w1, l1, ds', t1, Int.toNat_natCast]; repeat (simp (disch := omega) only [w64_d, ipos, ineg, dpos, dneg]; try simp (config := { maxSteps := 10000000 }) only [go_sem, seval, ll, lo, t0, d0, nz, s1, s2, g2, w1, l1, ds', t1, Int.toNat_natCast]))
          exact subH_app _ _
    · intro k' s' on' hk' he
      simp only [List.cons.injEq, AV.g.injEq, AV.c.injEq, Sc.i.injEq, Sc.b.injEq, and_true] at he
      obtain ⟨e1, rfl, rfl⟩ := he
      obtain rfl := rpk_inj hk.ok hk'.ok e1
      rfl
  obtain ⟨v, h1, h2⟩ := this
  rw [h1, h2 k s on hk rfl]
end

/-! ## XBp5 -/
section
variable {H : AH} {k : Pk}

/-! ### what stays -/
theorem setl_st (k : Pk) : ∀ j, j < 32 → (setl k).w.getLsbD j = true → (setl k).s.getLsbD j = false → (setl k).q.getLsbD j = true := fun j hj h1 h2 => by
  show (k.q ||| k.w &&& ~~~k.s).getLsbD j = true
  have h1 : k.w.getLsbD j = true := h1
  have h2 : k.s.getLsbD j = false := h2
  rw [BitVec.getLsbD_or, BitVec.getLsbD_and, BitVec.getLsbD_not, h1, h2]
  simp [hj]
theorem PkI.wire (h : PkI k) (s : Int) (on : Bool) : PkI (plWire k s on) := by
  refine ⟨plWire_ok h.ok s on, by rw [plWire_n]; exact h.n0, ?_, ?_⟩
  · unfold plWire
    repeat' split
    · exact h.st
    · exact setl_st _
    · exact setl_st _
  · unfold plWire
    repeat' split
    all_goals exact h.e0
theorem PkI.read (h : PkI k) (a : Pa) : PkI (plR k a) := by
  refine ⟨plR_ok h.ok a, by rw [plR_n]; exact h.n0, ?_, ?_⟩
  · unfold plR
    split
    · rename_i hb
      intro j hj h1 h2
      have b31 : plBst k a.i ≤ 31 := bstN_le 31
      have h2 : (k.s ||| bitK (plBst k a.i)).getLsbD j = false := h2
      rw [BitVec.getLsbD_or, bitK_get hj (by omega)] at h2
      simp only [Bool.or_eq_false_iff, decide_eq_false_iff_not] at h2
      show (k.q &&& ~~~(bitK (plBst k a.i))).getLsbD j = true
      rw [BitVec.getLsbD_and, BitVec.getLsbD_not, bitK_get hj (by omega), h.st j hj h1 h2.1]
      simp [hj, h2.2]
    · exact h.st
  · unfold plR
    split
    all_goals exact h.e0
theorem PkI.write (h : PkI k) (a : Pa) (v : BitVec 64) : PkI (plW k a v) := by
  refine ⟨plW_ok h.ok a v, by rw [plW_n]; exact h.n0, ?_, ?_⟩
  · unfold plW
    repeat' split
    · exact h.st
    · exact h.st
    · exact h.st
    · exact setl_st _
    · exact h.st
  · unfold plW
    repeat' split
    · exact h.e0
    · intro c
      show ((k.e.set a.i (v.setWidth 32 &&& ~~~1#32)).getD c 0#32).getLsbD 0 = false
      have := h.e0 c
      rw [List.getD_eq_getElem?_getD, List.getElem?_set]
      split
      · split
        · simp
        · simp
      · rw [← List.getD_eq_getElem?_getD]; exact this
    · exact h.e0
    · exact h.e0
    · exact h.e0
/-! ### what is read -/
theorem tk_q (h : PkOk k) : List.take 32 (List.drop 65 (rpk k)) = rb32 k.q := by
  rw [rp_e2, List.drop_left' (rpA2_l h), List.take_left' (rb32_l _)]
theorem tk_e (h : PkOk k) {c : Nat} (hc : c < 16) : List.take 32 (List.drop (129 + c * 32) (rpk k)) = rb32 (k.e.getD c 0#32) := by
  obtain ⟨P, Q, h1, h2⟩ := rp_row h hc
  have := h2 (k.e.getD c 0#32)
  rw [rp_rowself] at this
  rw [this, ← h1, List.drop_left, List.take_left' (rb32_l _)]
def q_r16r (args : List AV) (H : AH) (v : AV) : Prop := ∀ k off sz, PkI k → args = [.g (rpk k), .c (.u off), .c (.i sz)] → v = .t [.g (rpk (plR k (plAt k.n off sz))), .c (.u (plV k (plAt k.n off sz))), .c (.b (!decide ((plAt k.n off sz).k = 0)))]
def s_r16r : List AV → AH → Option AV := frQ Try.prog [(42, .pu s_rat16), (76, .fq s_r16word), (77, .fq s_r16b)] 46 q_r16r
set_option maxRecDepth 100000 in
set_option maxHeartbeats 2000000 in
theorem ok_r16r : FpOk Try.prog 46 (fun args H => (s_r16r args H).map fun v => (v, H)) := frQ_ok hmix (TabOk.cons (e := .pu s_rat16) ok_rat16 (TabOk.cons (e := .fq s_r16word) ok_r16word (TabOk.cons (e := .fq s_r16b) ok_r16b TabOk.nil))) Try.func46 rfl Try.results46 Try.ntmps46 (by kernel_rfl) (by kernel_rfl)
theorem s_r16r_eq (hk : PkI k) (off : BitVec 64) (sz : Int) : s_r16r [.g (rpk k), .c (.u off), .c (.i sz)] H = some (.t [.g (rpk (plR k (plAt k.n off sz))), .c (.u (plV k (plAt k.n off sz))), .c (.b (!decide ((plAt k.n off sz).k = 0)))]) := by
  have : ∃ v, s_r16r [.g (rpk k), .c (.u off), .c (.i sz)] H = some v ∧ q_r16r [.g (rpk k), .c (.u off), .c (.i sz)] H v := by
    unfold s_r16r
    apply frQ_ex (v := .t [.g (rpk (plR k (plAt k.n off sz))), .c (.u (plV k (plAt k.n off sz))), .c (.b (!decide ((plAt k.n off sz).k = 0)))]) Try.func46 rfl Try.results46 Try.ntmps46 (by simp only [List.length_cons, List.length_nil]; decide)
    · intro _ _
      show ((rpk _).all (Sc.bel H.length) && (true && (true && true))) = true
      rw [rpk_bel]; rfl
    · intro _ hH
      have ll := rpk_l hk.ok
      have lo := fun k => rpk_one k
      have t0 : List.take 657 (rpk k) = rpk k := List.take_of_length_le (by omega)
      have d0 := rp_n k
      have at' := s_rat16_eq (n := k.n) (off := off) (sz := sz)
      rw [if_pos ⟨hk.n0, hk.ok.n1⟩] at at'
      have hi := plAt_i hk.ok.n0 hk.ok.n1 off sz
      have ha := plAt_k k.n off sz
      have hR := (hk.read (plAt k.n off sz)).ok
      generalize plAt k.n off sz = a at *
      obtain ⟨ak, ai⟩ := a
      simp only at hi ha at'
      have no : ak ≠ 5 → plR k ⟨ak, ai⟩ = k := fun h => if_neg fun c => h c.1
      have wq := fun H => s_r16word_eq (H := H) k.q
      have tq := tk_q hk.ok
      rcases ha with rfl | rfl | rfl | rfl | rfl | rfl
      · rw [no (by decide)]
        (try simp (config := { maxSteps := 10000000 }) only [go_sem, seval, at', d0, ll, lo, t0, plV]; repeat (simp (disch := omega) only [w64_d, ipos, ineg, dpos, dneg]; try simp (config := { maxSteps := 10000000 }) only [go_sem, seval, at', d0, ll, lo, t0, plV]))
        (repeat' first | apply And.intro | (intro c; exact absurd c (by omega)) | (intro _; kernel_rfl) | kernel_rfl)
        exact subH_app _ _
      · have dp := rp_p hk.ok hi.1
        have h32 := hi.1
        rw [no (by decide)]
        (try simp (config := { maxSteps := 10000000 }) only [go_sem, seval, at', d0, ll, lo, t0, plV, dp, h32, Int.toNat_natCast]; repeat (simp (disch := omega) only [w64_d, ipos, ineg, dpos, dneg]; try simp (config := { maxSteps := 10000000 }) only [go_sem, seval, at', d0, ll, lo, t0, plV, dp, h32, Int.toNat_natCast]))
        (repeat' first | apply And.intro | (intro c; exact absurd c (by omega)) | (intro _; kernel_rfl) | kernel_rfl)
        exact subH_app _ _
      · rw [no (by decide)]
        (try simp (config := { maxSteps := 10000000 }) only [go_sem, seval, at', d0, ll, lo, t0, plV, tq, wq]; repeat (simp (disch := omega) only [w64_d, ipos, ineg, dpos, dneg]; try simp (config := { maxSteps := 10000000 }) only [go_sem, seval, at', d0, ll, lo, t0, plV, tq, wq]))
        (repeat' first | apply And.intro | (intro c; exact absurd c (by omega)) | (intro _; kernel_rfl) | kernel_rfl)
        exact subH_app _ _
      · have i16 := hi.2 (by decide)
        have te := tk_e hk.ok i16
        have we := fun H => s_r16word_eq (H := H) (k.e.getD ai 0#32)
        rw [no (by decide)]
        (try simp (config := { maxSteps := 10000000 }) only [go_sem, seval, at', d0, ll, lo, t0, plV, i16, te, we, Int.toNat_natCast]; repeat (simp (disch := omega) only [w64_d, ipos, ineg, dpos, dneg]; try simp (config := { maxSteps := 10000000 }) only [go_sem, seval, at', d0, ll, lo, t0, plV, i16, te, we, Int.toNat_natCast]))
        (repeat' first | apply And.intro | (intro c; exact absurd c (by omega)) | (intro _; kernel_rfl) | kernel_rfl)
        exact subH_app _ _
      · have i16 := hi.2 (by decide)
        have dl := rp_l hk.ok i16
        rw [no (by decide)]
        (try simp (config := { maxSteps := 10000000 }) only [go_sem, seval, at', d0, ll, lo, t0, plV, dl, i16, Int.toNat_natCast]; repeat (simp (disch := omega) only [w64_d, ipos, ineg, dpos, dneg]; try simp (config := { maxSteps := 10000000 }) only [go_sem, seval, at', d0, ll, lo, t0, plV, dl, i16, Int.toNat_natCast]))
        (repeat' first | apply And.intro | (intro c; exact absurd c (by omega)) | (intro _; kernel_rfl) | kernel_rfl)
        exact subH_app _ _
      · have i16 := hi.2 (by decide)
        have rb := fun H => s_r16b_eq (H := H) hk.ok i16 0
        have b31 : plBst k ai ≤ 31 := bstN_le 31
        have eB : bstN k.p (k.q &&& k.e.getD ai 0#32) 0 31 = plBst k ai := rfl
        have eV : plV k ⟨5, ai⟩ = BitVec.ofInt 64 (plBst k ai : Int) := by simp [plV]
        rw [eV]
        have eR : plR k ⟨5, ai⟩ = if 0 < plBst k ai then { k with q := k.q &&& ~~~(bitK (plBst k ai)), s := k.s ||| bitK (plBst k ai) } else k := by unfold plR; simp only [true_and]
        rw [eR]
        rw [eB] at rb
        generalize plBst k ai = B at *
        by_cases z : 0 < B
        · have z' : (0 : Int) < (B : Int) := by omega
          have hB : B < 32 := by omega
          have hB' : (B : Int) < 32 := by omega
          have ok1 : PkOk { k with q := k.q &&& ~~~(bitK B) } := hk.ok.setW _ _ _
          have ok2 : PkOk { k with q := k.q &&& ~~~(bitK B), s := k.s ||| bitK B } := hk.ok.setW _ _ _
          have l1 := rpk_l ok1
          have l2 := rpk_l ok2
          have t2 : List.take 657 (rpk { k with q := k.q &&& ~~~(bitK B), s := k.s ||| bitK B }) = rpk { k with q := k.q &&& ~~~(bitK B), s := k.s ||| bitK B } := List.take_of_length_le (by omega)
          have w1 := wr_td (wp_q hk.ok hB (bit_an hB))
          have w2 := wr_td (wp_s (k := { k with q := k.q &&& ~~~(bitK B) }) ok1 hB (bit_or hB))
          rw [if_pos z]
          (try simp (config := { maxSteps := 10000000 }) only [go_sem, seval, at', d0, ll, lo, t0, rb, z', hB', w1, l1, w2, l2, t2, Int.toNat_natCast]; repeat (simp (disch := omega) only [w64_d, ipos, ineg, dpos, dneg]; try simp (config := { maxSteps := 10000000 }) only [go_sem, seval, at', d0, ll, lo, t0, rb, z', hB', w1, l1, w2, l2, t2, Int.toNat_natCast]))
          exact subH_app _ _
        · have z' : ¬ (0 : Int) < (B : Int) := by omega
          rw [if_neg z]
          (try simp (config := { maxSteps := 10000000 }) only [go_sem, seval, at', d0, ll, lo, t0, rb, z', Int.toNat_natCast]; repeat (simp (disch := omega) only [w64_d, ipos, ineg, dpos, dneg]; try simp (config := { maxSteps := 10000000 }) only [go_sem, seval, at', d0, ll, lo, t0, rb, z', Int.toNat_natCast]))
          exact subH_app _ _
    · intro k' off' sz' hk' he
      simp only [List.cons.injEq, AV.g.injEq, AV.c.injEq, Sc.i.injEq, Sc.u.injEq, and_true] at he
      obtain ⟨e1, rfl, rfl⟩ := he
      obtain rfl := rpk_inj hk.ok hk'.ok e1
      rfl
  obtain ⟨v, h1, h2⟩ := this
  rw [h1, h2 k off sz hk rfl]
end

/-! ## XBp6 -/
section
variable {H : AH} {k : Pk}

theorem set_gv {w q s : BitVec 32} {i : Nat} (hi : i < 32) (st : ∀ j, j < 32 → w.getLsbD j = true → s.getLsbD j = false → q.getLsbD j = true) : q ||| w &&& ~~~(s &&& ~~~(bitK i)) = if w.getLsbD i = true then q ||| bitK i else q := by
  refine BitVec.eq_of_getLsbD_eq fun j hj => ?_
  have st := st j hj
  have b := bq st
  rw [BitVec.getLsbD_or, BitVec.getLsbD_and, BitVec.getLsbD_not, BitVec.getLsbD_and, BitVec.getLsbD_not, bitK_get hj hi, decide_eq_true hj]
  by_cases e : j = i
  · subst e
    rw [decide_eq_true rfl]
    by_cases hw : w.getLsbD j = true
    · rw [if_pos hw, BitVec.getLsbD_or, bitK_get hj hi, decide_eq_true rfl, hw]; simp
    · rw [if_neg hw]
      simp at hw
      rw [hw]; simp
  · rw [decide_eq_false e]
    have b2 : (q.getLsbD j || (w.getLsbD j && (true && !(s.getLsbD j && (true && !false))))) = q.getLsbD j := by
      rw [show (true && !false) = true from rfl, Bool.and_true]; exact b
    by_cases hw : w.getLsbD i = true
    · rw [if_pos hw, BitVec.getLsbD_or, bitK_get hj hi, decide_eq_false e, Bool.or_false]; exact b2
    · rw [if_neg hw]; exact b2
theorem and_bit {x : BitVec 32} {i : Nat} (hi : i < 32) : (x &&& bitK i = 0#32) = (x.getLsbD i = false) := by
  refine propext ⟨fun h => ?_, fun h => BitVec.eq_of_getLsbD_eq fun j hj => ?_⟩
  · have := congrArg (fun y => y.getLsbD i) h
    simp only [BitVec.getLsbD_and, bitK_get hi hi, decide_true, Bool.and_true, BitVec.getLsbD_zero] at this
    exact this
  · rw [BitVec.getLsbD_and, bitK_get hj hi, BitVec.getLsbD_zero]
    by_cases e : j = i
    · subst e; rw [h]; rfl
    · rw [decide_eq_false e, Bool.and_false]
theorem mod8 (v : BitVec 64) : (v % 8#64).toInt = ((v &&& 7#64).toNat : Int) := by
  have e : v &&& 7#64 = v % 8#64 := by
    apply BitVec.eq_of_toNat_eq
    rw [BitVec.toNat_and, BitVec.toNat_umod, show (7#64).toNat = 2 ^ 3 - 1 from rfl, show (8#64).toNat = 2 ^ 3 from rfl, Nat.and_two_pow_sub_one_eq_mod]
  rw [e, BitVec.toInt_eq_toNat_cond, if_pos]
  rw [BitVec.toNat_umod, show (8#64).toNat = 8 from rfl]
  omega
theorem mod32 (v : BitVec 64) : (v % 4294967296#64).toNat = (v.setWidth 32).toNat := by
  rw [BitVec.toNat_umod, BitVec.toNat_setWidth]; rfl
theorem shr1 (v : BitVec 64) (s : Nat) : v >>> s / 2#64 = v >>> (s + 1) := by
  apply BitVec.eq_of_toNat_eq
  rw [BitVec.toNat_udiv, BitVec.toNat_ushiftRight, BitVec.toNat_ushiftRight, Nat.shiftRight_eq_div_pow, Nat.shiftRight_eq_div_pow, show (2#64).toNat = 2 from rfl, Nat.div_div_eq_div_mul, Nat.pow_succ]
theorem shr0 (v : BitVec 64) : v / 2#64 = v >>> 1 := by
  have := shr1 v 0
  rwa [BitVec.ushiftRight_zero] at this
theorem bit_m (v : BitVec 64) (s : Nat) : (v >>> s % 2#64 = 1#64) = (v.getLsbD s = true) := by
  rw [shr_mod]
  cases v.getLsbD s <;> simp
/-- bits that are laid one by one -/
def fE (v : BitVec 64) (w : BitVec 32) (s : Nat) (j : Nat) : Bool := if 1 ≤ j ∧ j < s then v.getLsbD j else w.getLsbD j
def q_r16v (args : List AV) (H : AH) (v : AV) : Prop := ∀ k off sz w, PkI k → args = [.g (rpk k), .c (.u off), .c (.i sz), .c (.u w)] → v = .t [.g (rpk (plW k (plAt k.n off sz) w)), .c (.b (!decide ((plAt k.n off sz).k = 0)))]
def s_r16v : List AV → AH → Option AV := frQ Try.prog [(42, .pu s_rat16)] 49 q_r16v
set_option maxRecDepth 100000 in
set_option maxHeartbeats 2000000 in
theorem ok_r16v : FpOk Try.prog 49 (fun args H => (s_r16v args H).map fun v => (v, H)) := frQ_ok hmix (TabOk.cons (e := .pu s_rat16) ok_rat16 TabOk.nil) Try.func49 rfl Try.results49 Try.ntmps49 (by kernel_rfl) (by kernel_rfl)
theorem s_r16v_eq (hk : PkI k) (off : BitVec 64) (sz : Int) (v : BitVec 64) : s_r16v [.g (rpk k), .c (.u off), .c (.i sz), .c (.u v)] H = some (.t [.g (rpk (plW k (plAt k.n off sz) v)), .c (.b (!decide ((plAt k.n off sz).k = 0)))]) := by
  have : ∃ x, s_r16v [.g (rpk k), .c (.u off), .c (.i sz), .c (.u v)] H = some x ∧ q_r16v [.g (rpk k), .c (.u off), .c (.i sz), .c (.u v)] H x := by
    unfold s_r16v
    apply frQ_ex (v := .t [.g (rpk (plW k (plAt k.n off sz) v)), .c (.b (!decide ((plAt k.n off sz).k = 0)))]) Try.func49 rfl Try.results49 Try.ntmps49 (by simp only [List.length_cons, List.length_nil]; decide)
    · intro _ _
      show ((rpk _).all (Sc.bel H.length) && (true && true)) = true
      rw [rpk_bel]; rfl
    · intro _ hH
      have ll := rpk_l hk.ok
      have lo := fun k => rpk_one k
      have TT := fun {k : Pk} (h : PkOk k) => (List.take_of_length_le (by rw [rpk_l h]; exact Nat.le_refl _) : List.take 657 (rpk k) = rpk k)
      have t0 := TT hk.ok
      have d0 := rp_n k
      have at' := s_rat16_eq (n := k.n) (off := off) (sz := sz)
      rw [if_pos ⟨hk.n0, hk.ok.n1⟩] at at'
      have hi := plAt_i hk.ok.n0 hk.ok.n1 off sz
      have ha := plAt_k k.n off sz
      have okW := plW_ok hk.ok (plAt k.n off sz) v
      have m8 := mod8 v
      generalize plAt k.n off sz = a at *
      obtain ⟨ak, ai⟩ := a
      simp only at hi ha at'
      have lW := rpk_l okW
      have tW := TT okW
      rcases ha with rfl | rfl | rfl | rfl | rfl | rfl
      · have e : plW k ⟨0, ai⟩ v = k := by simp [plW]
        rw [e]
        (try simp (config := { maxSteps := 10000000 }) only [go_sem, seval, at', d0, ll, lo, t0]; repeat (simp (disch := omega) only [w64_d, ipos, ineg, dpos, dneg]; try simp (config := { maxSteps := 10000000 }) only [go_sem, seval, at', d0, ll, lo, t0]))
        exact subH_app _ _
      · have h32 := hi.1
        have e : plW k ⟨1, ai⟩ v = { k with p := k.p.set ai ((v &&& 7#64).toNat : Int) } := by simp [plW]
        have w1 := wr_td (wp_p hk.ok h32 ((v &&& 7#64).toNat : Int))
        rw [e] at lW tW ⊢
        (try simp (config := { maxSteps := 10000000 }) only [go_sem, seval, at', d0, ll, lo, t0, h32, m8, w1, lW, tW, Int.toNat_natCast]; repeat (simp (disch := omega) only [w64_d, ipos, ineg, dpos, dneg]; try simp (config := { maxSteps := 10000000 }) only [go_sem, seval, at', d0, ll, lo, t0, h32, m8, w1, lW, tW, Int.toNat_natCast]))
        exact subH_app _ _
      · have e : plW k ⟨2, ai⟩ v = k := by simp [plW]
        rw [e]
        (try simp (config := { maxSteps := 10000000 }) only [go_sem, seval, at', d0, ll, lo, t0]; repeat (simp (disch := omega) only [w64_d, ipos, ineg, dpos, dneg]; try simp (config := { maxSteps := 10000000 }) only [go_sem, seval, at', d0, ll, lo, t0]))
        exact subH_app _ _
      · have i16 := hi.2 (by decide)
        have e : plW k ⟨3, ai⟩ v = { k with e := k.e.set ai (v.setWidth 32 &&& ~~~1#32) } := by simp [plW]
        rw [e] at lW tW ⊢
        obtain ⟨P, Q, hP, hPQ⟩ := rp_row hk.ok i16
        have e0 := hPQ (k.e.getD ai 0#32)
        rw [rp_rowself] at e0
        have eN := hPQ (v.setWidth 32 &&& ~~~1#32)
        have ez := hk.e0 ai
        generalize k.e.getD ai 0#32 = E at *
        have f1 : rbF (fE v E 1) = rb32 E := rbF_ext fun j hj => by unfold fE; rw [if_neg (by omega)]
        have f32 : rbF (fE v E 32) = rb32 (v.setWidth 32 &&& ~~~1#32) := rbF_ext fun j hj => by
          unfold fE
          rw [BitVec.getLsbD_and, BitVec.getLsbD_setWidth, BitVec.getLsbD_not, BitVec.getLsbD_one, decide_eq_true hj]
          by_cases c : j = 0
          · subst c
            rw [if_neg (by omega), ez]; simp
          · rw [if_pos (by omega)]
            simp [c]; try omega
        have lp : (P ++ (rb32 E ++ Q)).length = 657 := by rw [← e0]; exact ll
        have lQ : Q.length = 657 - 32 - P.length := by simp only [List.length_append, rb32_l] at lp; omega
        have lF : ∀ s, (P ++ (rbF (fE v E s) ++ Q)).length = 657 := fun s => by simp only [List.length_append, rbF_l]; simp only [List.length_append, rb32_l] at lp; omega
        rw [eN, ← f32] at lW tW ⊢
        have lo' : (P ++ (rbF (fE v E 32) ++ Q)).all Sc.one = true := by rw [f32, ← eN]; exact lo _
        have gd0 : (P ++ (rbF (fE v E 1) ++ Q)).getD 0 .any = .i k.n := by rw [f1, ← e0]; exact d0
        rw [e0, ← f1] at ll t0 ⊢
        have lo1 : (P ++ (rbF (fE v E 1) ++ Q)).all Sc.one = true := by rw [f1, ← e0]; exact lo _
        have sh := shr0 v
        have st : ∀ s, 1 ≤ s → s < 32 → ∀ x, x = v.getLsbD s → List.take (129 + ai * 32 + s) (P ++ (rbF (fE v E s) ++ Q)) ++ Sc.b x :: List.drop (129 + ai * 32 + s + 1) (P ++ (rbF (fE v E s) ++ Q)) = P ++ (rbF (fE v E (s + 1)) ++ Q) := fun s h1 h2 x hx => by
          rw [← hP]
          refine wr_td ((wr_mid (by rw [rbF_l]; simp; omega)).trans ?_)
          rw [rbF_wr h2, rbF_ext (g := fE v E (s + 1)) fun j hj => ?_]
          unfold fE
          by_cases c : j = s
          · subst c; rw [if_pos rfl, if_pos (by omega), hx]
          · rw [if_neg c]
            by_cases d : 1 ≤ j ∧ j < s
            · rw [if_pos d, if_pos (by omega)]
            · rw [if_neg d, if_neg (by omega)]
        obtain ⟨G, hG⟩ : ∃ G : Nat → List Sc, ∀ s, P ++ (rbF (fE v E s) ++ Q) = G s := ⟨_, fun _ => rfl⟩
        simp only [hG] at *
        have st2 := fun s h1 h2 => st s h1 h2 _ rfl
        clear st
        (try simp (config := { maxSteps := 10000000 }) only [go_sem, seval, at', gd0, ll, lo1, sh, rp0_l]; repeat (simp (disch := omega) only [w64_d, ipos, ineg, dpos, dneg]; try simp (config := { maxSteps := 10000000 }) only [go_sem, seval, at', gd0, ll, lo1, sh, rp0_l]))
        refine arun_for 31 (fun t => ([(4, .c (.p H.length 0 0)), (8, .c (.p (H.length + 1) 0 0)), (11, .c (.i ai)), (12, .c (.u (v >>> (t + 1)))), (13, .c (.i ((t : Int) + 1)))], H ++ [.own (G (t + 1)), .own (.i 0 :: rp0)])) (Wk.fq (by simp [Am.get])) fun t ht => ?_
        by_cases hlt : t < 31
        · have g1 : (t : Int) + 1 < 32 := by omega
          have g2 : ((t : Int) + 1).toNat = t + 1 := by omega
          have g3 : w64 ((t : Int) + 1 + 1) = ((t + 1 : Nat) : Int) + 1 := by rw [w64_d (by omega) (by omega)]; omega
          have g4 : (0 : Int) ≤ (t : Int) + 1 := by omega
          have bm := bit_m v (t + 1)
          have s1 := shr1 v (t + 1)
          have w1 := st2 (t + 1) (by omega) (by omega)
          have lt1 := lF (t + 1)
          cases hb : v.getLsbD (t + 1)
          all_goals rw [hb] at bm w1
          all_goals (try simp (config := { maxSteps := 10000000 }) only [go_sem, seval, g1, g2, g3, g4, bm, s1, w1, lt1, i16, Int.toNat_natCast]; repeat (simp (disch := omega) only [w64_d, ipos, ineg, dpos, dneg]; try simp (config := { maxSteps := 10000000 }) only [go_sem, seval, g1, g2, g3, g4, bm, s1, w1, lt1, i16, Int.toNat_natCast]))
          all_goals exact ⟨t + 1, by omega, by omega, Wk.fq (by simp [Am.get])⟩
        · obtain rfl : t = 31 := by omega
          have l32 := lF 32
          (try simp (config := { maxSteps := 10000000 }) only [go_sem, seval, lo', tW, l32]; repeat (simp (disch := omega) only [w64_d, ipos, ineg, dpos, dneg]; try simp (config := { maxSteps := 10000000 }) only [go_sem, seval, lo', tW, l32]))
          exact subH_app _ _
      · have i16 := hi.2 (by decide)
        have e : plW k ⟨4, ai⟩ v = { k with l := k.l.set ai ((v &&& 7#64).toNat : Int) } := by simp [plW]
        have w1 := wr_td (wp_l hk.ok i16 ((v &&& 7#64).toNat : Int))
        rw [e] at lW tW ⊢
        (try simp (config := { maxSteps := 10000000 }) only [go_sem, seval, at', d0, ll, lo, t0, i16, m8, w1, lW, tW, Int.toNat_natCast]; repeat (simp (disch := omega) only [w64_d, ipos, ineg, dpos, dneg]; try simp (config := { maxSteps := 10000000 }) only [go_sem, seval, at', d0, ll, lo, t0, i16, m8, w1, lW, tW, Int.toNat_natCast]))
        exact subH_app _ _
      · have i16 := hi.2 (by decide)
        have m32 := mod32 v
        have eG : plGo k ai (v.setWidth 32) = ((v.setWidth 32).toNat < 32 ∧ (k.e.getD ai 0#32).getLsbD (v.setWidth 32).toNat = true ∧ k.s.getLsbD (v.setWidth 32).toNat = true) := by
          unfold plGo
          by_cases c : (v.setWidth 32).toNat < 32
          · rw [and_bit c, BitVec.getLsbD_and]
            cases (k.e.getD ai 0#32).getLsbD (v.setWidth 32).toNat <;> cases k.s.getLsbD (v.setWidth 32).toNat <;> simp
          · exact propext ⟨fun h => absurd h.1 c, fun h => absurd h.1 c⟩
        have e : plW k ⟨5, ai⟩ v = if plGo k ai (v.setWidth 32) then setl { k with s := k.s &&& ~~~(bitK (v.setWidth 32).toNat) } else k := by simp [plW]
        rw [e] at lW tW ⊢
        have ez := hk.e0 ai
        have c1 : (1#64 ≤ v % 4294967296#64) = (1 ≤ (v.setWidth 32).toNat) := by rw [BitVec.le_def, m32]; rfl
        have c2 : (v % 4294967296#64 ≤ 31#64) = ((v.setWidth 32).toNat ≤ 31) := by rw [BitVec.le_def, m32]; rfl
        obtain ⟨V, hV⟩ : ∃ V, v % 4294967296#64 = V := ⟨_, rfl⟩
        rw [hV] at m32 c1 c2
        generalize (v.setWidth 32).toNat = m at *
        by_cases m1 : 1 ≤ m
        · by_cases m2 : m ≤ 31
          · have hm : m < 32 := by omega
            have de : (rpk k).getD (129 + ai * 32 + m) .any = .b ((k.e.getD ai 0#32).getLsbD m) := by rw [Nat.add_assoc]; exact rp_e hk.ok i16 hm
            have ds := rp_s hk.ok hm
            have dw := rp_w (k := { k with s := k.s &&& ~~~(bitK m) }) (hk.ok.setW _ _ _) hm
            cases he : (k.e.getD ai 0#32).getLsbD m
            · rw [if_neg (by rw [eG, he]; simp)] at lW tW ⊢
              rw [he] at de
              (try simp (config := { maxSteps := 10000000 }) only [go_sem, seval, at', d0, ll, lo, t0, hV, c1, c2, m1, m2, hm, m32, i16, de, Int.toNat_natCast]; repeat (simp (disch := omega) only [w64_d, ipos, ineg, dpos, dneg]; try simp (config := { maxSteps := 10000000 }) only [go_sem, seval, at', d0, ll, lo, t0, hV, c1, c2, m1, m2, hm, m32, i16, de, Int.toNat_natCast]))
              exact subH_app _ _
            rw [he] at de
            cases hs : k.s.getLsbD m
            · rw [if_neg (by rw [eG, hs]; simp)] at lW tW ⊢
              rw [hs] at ds
              (try simp (config := { maxSteps := 10000000 }) only [go_sem, seval, at', d0, ll, lo, t0, hV, c1, c2, m1, m2, hm, m32, i16, de, ds, Int.toNat_natCast]; repeat (simp (disch := omega) only [w64_d, ipos, ineg, dpos, dneg]; try simp (config := { maxSteps := 10000000 }) only [go_sem, seval, at', d0, ll, lo, t0, hV, c1, c2, m1, m2, hm, m32, i16, de, ds, Int.toNat_natCast]))
              exact subH_app _ _
            rw [hs] at ds
            rw [if_pos (by rw [eG, he, hs]; exact ⟨hm, rfl, rfl⟩)] at lW tW ⊢
            have eS : setl { k with s := k.s &&& ~~~(bitK m) } = { k with s := k.s &&& ~~~(bitK m), q := if k.w.getLsbD m = true then k.q ||| bitK m else k.q } := by
              show ({ k with s := _, q := k.q ||| k.w &&& ~~~(k.s &&& ~~~(bitK m)) } : Pk) = _
              rw [set_gv hm hk.st]
            rw [eS] at lW tW ⊢
            have w1 := wr_td (wp_s hk.ok hm (bit_an hm))
            have l1 := rpk_l (k := { k with s := k.s &&& ~~~(bitK m) }) (hk.ok.setW _ _ _)
            cases hw : k.w.getLsbD m
            · rw [hw] at lW tW
              have dw' : (rpk { k with s := k.s &&& ~~~(bitK m) }).getD (33 + m) .any = .b false := by rw [dw]; exact congrArg Sc.b hw
              simp only [Bool.false_eq_true, if_false] at lW tW ⊢
              (try simp (config := { maxSteps := 10000000 }) only [go_sem, seval, at', d0, ll, lo, t0, hV, c1, c2, m1, m2, hm, m32, i16, de, ds, w1, l1, dw', lW, tW, Int.toNat_natCast]; repeat (simp (disch := omega) only [w64_d, ipos, ineg, dpos, dneg]; try simp (config := { maxSteps := 10000000 }) only [go_sem, seval, at', d0, ll, lo, t0, hV, c1, c2, m1, m2, hm, m32, i16, de, ds, w1, l1, dw', lW, tW, Int.toNat_natCast]))
              exact subH_app _ _
            · rw [hw] at lW tW
              have dw' : (rpk { k with s := k.s &&& ~~~(bitK m) }).getD (33 + m) .any = .b true := by rw [dw]; exact congrArg Sc.b hw
              have w2 := wr_td (wp_q (k := { k with s := k.s &&& ~~~(bitK m) }) (hk.ok.setW _ _ _) hm (bit_or hm))
              simp only [if_true] at lW tW ⊢
              (try simp (config := { maxSteps := 10000000 }) only [go_sem, seval, at', d0, ll, lo, t0, hV, c1, c2, m1, m2, hm, m32, i16, de, ds, w1, l1, dw', w2, lW, tW, Int.toNat_natCast]; repeat (simp (disch := omega) only [w64_d, ipos, ineg, dpos, dneg]; try simp (config := { maxSteps := 10000000 }) only [go_sem, seval, at', d0, ll, lo, t0, hV, c1, c2, m1, m2, hm, m32, i16, de, ds, w1, l1, dw', w2, lW, tW, Int.toNat_natCast]))
              exact subH_app _ _
          · rw [if_neg (by rw [eG]; omega)] at lW tW ⊢
            (try simp (config := { maxSteps := 10000000 }) only [go_sem, seval, at', d0, ll, lo, t0, hV, c1, c2, m1, m2]; repeat (simp (disch := omega) only [w64_d, ipos, ineg, dpos, dneg]; try simp (config := { maxSteps := 10000000 }) only [go_sem, seval, at', d0, ll, lo, t0, hV, c1, c2, m1, m2]))
            exact subH_app _ _
        · obtain rfl : m = 0 := by omega
          rw [if_neg (by rw [eG, ez]; simp)] at lW tW ⊢
          (try simp (config := { maxSteps := 10000000 }) only [go_sem, seval, at', d0, ll, lo, t0, hV, c1, m1]; repeat (simp (disch := omega) only [w64_d, ipos, ineg, dpos, dneg]; try simp (config := { maxSteps := 10000000 }) only [go_sem, seval, at', d0, ll, lo, t0, hV, c1, m1]))
          exact subH_app _ _
    · intro k' off' sz' v' hk' he
      simp only [List.cons.injEq, AV.g.injEq, AV.c.injEq, Sc.i.injEq, Sc.u.injEq, and_true] at he
      obtain ⟨e1, rfl, rfl, rfl⟩ := he
      obtain rfl := rpk_inj hk.ok hk'.ok e1
      rfl
  obtain ⟨x, h1, h2⟩ := this
  rw [h1, h2 k off sz v hk rfl]
end

end
end Go.Proofs.Ytfddaaplnnlfoaa
