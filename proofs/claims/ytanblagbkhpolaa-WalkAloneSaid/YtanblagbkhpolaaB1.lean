/- Contracts of layer 1, by bits: what its functions return, for every input. -/
import Derived.Test.YtanblagbkhpolaaBit
namespace Go.Proofs.Ytanblagbkhpolaa
open Go.Am
set_option linter.unusedSimpArgs false
set_option linter.unusedVariables false
noncomputable section

/-- a number that an int holds -/
structure inR (x : Int) : Prop where
  lo : -9223372036854775808 ≤ x
  hi : x ≤ 9223372036854775807
instance (x : Int) : Decidable (inR x) := decidable_of_iff (-9223372036854775808 ≤ x ∧ x ≤ 9223372036854775807) ⟨fun h => ⟨h.1, h.2⟩, fun h => ⟨h.1, h.2⟩⟩

/-- the word whose bits are told -/
def ofGn (g : Nat → Bool) : Nat → BitVec 64
  | 0 => 0#64
  | k + 1 => ofGn g k ||| (if g k = true then 1#64 <<< k else 0#64)
theorem ofGn_get (g : Nat → Bool) (k i : Nat) (hi : i < 64) : (ofGn g k).getLsbD i = (decide (i < k) && g i) := by
  induction k with
  | zero => simp [ofGn]
  | succ k ih =>
    simp only [ofGn, BitVec.getLsbD_or, ih]
    by_cases h : i = k
    · subst h
      cases g i <;> simp [hi]
    · have e : decide (i < k + 1) = decide (i < k) := by simp; omega
      rw [e]
      split
      · simp [BitVec.getLsbD_shiftLeft, BitVec.getLsbD_one, hi]
        omega
      · simp
theorem ofG_ex (g : Nat → Bool) : ∃ w : BitVec 64, ∀ i, i < 64 → w.getLsbD i = g i := ⟨ofGn g 64, fun i hi => by rw [ofGn_get _ _ _ hi]; simp [hi]⟩
/-- (a choice: so that nothing looks into it) -/
def ofG (g : Nat → Bool) : BitVec 64 := Classical.choose (ofG_ex g)
theorem ofG_get {g : Nat → Bool} {i : Nat} (hi : i < 64) : (ofG g).getLsbD i = g i := Classical.choose_spec (ofG_ex g) i hi
theorem ofG_ext {w : BitVec 64} {g : Nat → Bool} (h : ∀ i, i < 64 → w.getLsbD i = g i) : w = ofG g := by
  apply BitVec.eq_of_getLsbD_eq
  intro i hi
  rw [h i hi, ofG_get hi]
theorem ofG_congr {g h : Nat → Bool} (e : ∀ i, i < 64 → g i = h i) : ofG g = ofG h := ofG_ext fun i hi => by rw [ofG_get hi, e i hi]

theorem ofG_eqn (g : Nat → Bool) : ofG g = ofGn g 64 := (ofG_ext fun i hi => by rw [ofGn_get _ _ _ hi]; simp [hi]).symm

def bitB (w : BitVec 64) (i : Int) : Bool := decide (0 ≤ i) && decide (i ≤ 63) && w.getLsbD i.toNat
def b2 (b : Bool) : BitVec 64 := if b = true then 1#64 else 0#64
theorem bitU_B {w : BitVec 64} {i : Int} : bitU w i = b2 (bitB w i) := by
  unfold bitU bitB b2
  by_cases h : 0 ≤ i ∧ i ≤ 63
  · rw [if_pos h]; simp [h.1, h.2]
  · rw [if_neg h]
    have : (decide (0 ≤ i) && decide (i ≤ 63)) = false := by
      simp; intro h0; omega
    rw [this]; rfl
theorem bitB_nat {w : BitVec 64} {i : Nat} (hi : i < 64) : bitB w i = w.getLsbD i := by
  unfold bitB; simp; intro h; omega
theorem bitB_out {w : BitVec 64} {i : Int} (h : i < 0 ∨ 63 < i) : bitB w i = false := by
  unfold bitB
  have : (decide (0 ≤ i) && decide (i ≤ 63)) = false := by simp; intro h0; omega
  rw [this]; rfl
theorem bitB_in {w : BitVec 64} {i : Int} (h : 0 ≤ i) (h' : i ≤ 63) : bitB w i = w.getLsbD i.toNat := by
  unfold bitB; simp [h, h']

/-- is a bit of a part? -/
def inP (at' size : Int) (i : Nat) : Bool := decide (at' ≤ (i : Int) ∧ (i : Int) < at' + size)
def onesU (at' size : Int) : BitVec 64 := ofG (inP at' size)
def shiftU (w : BitVec 64) (by' : Int) : BitVec 64 := ofG fun i => bitB w (i - by')
def cutU (w : BitVec 64) (at' size : Int) : BitVec 64 := ofG fun k => decide ((k : Int) < size) && bitB w (at' + k)
def putU (w : BitVec 64) (at' size : Int) (n : BitVec 64) : BitVec 64 := ofG fun i => if inP at' size i = true then bitB n (i - at') else w.getLsbD i
def lowU (w : BitVec 64) (size : Int) : BitVec 64 := ofG fun i => decide ((i : Int) < size) && w.getLsbD i
def signU (w : BitVec 64) (size : Int) : BitVec 64 := ofG fun i => decide (1 ≤ size) && (if (i : Int) < size then w.getLsbD i else bitB w (size - 1))

def spanF (at' size : Int) : Int := if size < 1 then 0 else if 63 < at' then 0 else if 0 ≤ at' then at' else 0
def spanT (at' size : Int) : Int := if size < 1 then 0 else if 63 < at' then 0 else if 0 ≤ at' then at' + min size (64 - at') else if at' + size ≤ 0 then 0 else min (at' + size) 64

def s_span (args : List AV) : Option AV :=
  match args with
  | [.c (.i a), .c (.i s)] => if inR a ∧ inR s then some (.t [.c (.i (spanF a s)), .c (.i (spanT a s))]) else none
  | _ => none
theorem s_span_eq {a s} : s_span [.c (.i a), .c (.i s)] = if inR a ∧ inR s then some (.t [.c (.i (spanF a s)), .c (.i (spanT a s))]) else none := rfl
set_option maxRecDepth 100000 in
set_option maxHeartbeats 2000000 in
theorem ok_span : PuOk Try.prog 95 s_span := by
  refine pu_ok (tab := []) hmix TabOk.nil Try.func95 rfl Try.results95 Try.ntmps95 (by kernel_rfl) (by kernel_rfl) ?_
  intro args v h
  unfold s_span at h
  split at h
  · rename_i a s
    split at h
    · rename_i hc
      simp only [Option.some.injEq] at h; subst h
      refine ⟨by simp only [List.length_cons, List.length_nil]; decide, rfl, rfl, ?_⟩
      obtain ⟨⟨al, ah⟩, ⟨sl, sh⟩⟩ := hc
      by_cases h1 : s < 1
      · simp (config := { maxSteps := 10000000 }) only [go_sem, seval, spanF, spanT, h1]
      · by_cases h2 : 63 < a
        · simp (config := { maxSteps := 10000000 }) only [go_sem, seval, spanF, spanT, h1, h2]
        · by_cases h3 : 0 ≤ a
          · have e1 : w64 (64 - a) = 64 - a := w64_of (by omega)
            have e2 : w64 (a + min s (64 - a)) = a + min s (64 - a) := w64_of (by omega)
            simp (config := { maxSteps := 10000000 }) only [go_sem, seval, spanF, spanT, h1, h2, h3, e1, e2]
          · have e1 : w64 (a + s) = a + s := w64_of (by omega)
            by_cases h4 : a + s ≤ 0
            · simp (config := { maxSteps := 10000000 }) only [go_sem, seval, spanF, spanT, h1, h2, h3, h4, e1]
            · simp (config := { maxSteps := 10000000 }) only [go_sem, seval, spanF, spanT, h1, h2, h3, h4, e1]
    · simp at h
  · simp at h

theorem spanF_b {a s : Int} : 0 ≤ spanF a s ∧ spanF a s ≤ 63 := by
  unfold spanF; split <;> (try split) <;> (try split) <;> omega
theorem spanT_b {a s : Int} : 0 ≤ spanT a s ∧ spanT a s ≤ 64 := by
  unfold spanT; split <;> (try split) <;> (try split) <;> (try split) <;> omega
theorem span_in {a s : Int} {i : Nat} (hi : i < 64) : inP a s i = decide (spanF a s ≤ (i : Int) ∧ (i : Int) < spanT a s) := by
  unfold inP spanF spanT
  apply decide_eq_decide.2
  split <;> (try split) <;> (try split) <;> (try split) <;> omega
theorem ofI_nat {n : Nat} (h : n < 18446744073709551616) : (BitVec.ofInt 64 (n : Int)).toNat = n := by
  rw [BitVec.toNat_ofInt]; omega
theorem ones_eq {f t : Nat} (h : f < t) (ht : t ≤ 64) (i : Nat) (hi : i < 64) : ((18446744073709551615#64 >>> (64 - (t - f))) <<< f).getLsbD i = decide (f ≤ i ∧ i < t) := by
  have e : 18446744073709551615#64 = BitVec.allOnes 64 := by decide
  rw [e, BitVec.getLsbD_shiftLeft, BitVec.getLsbD_ushiftRight, BitVec.getLsbD_allOnes]
  by_cases h1 : i < f
  · simp [h1, hi]; omega
  · by_cases h2 : i < t
    · simp [h1, h2, hi]; omega
    · simp [h1, h2, hi]; omega

def s_ones (args : List AV) : Option AV :=
  match args with
  | [.c (.i a), .c (.i s)] => if inR a ∧ inR s then some (.c (.u (onesU a s))) else none
  | _ => none
theorem s_ones_eq {a s} : s_ones [.c (.i a), .c (.i s)] = if inR a ∧ inR s then some (.c (.u (onesU a s))) else none := rfl
set_option maxRecDepth 100000 in
set_option maxHeartbeats 2000000 in
theorem ok_ones : PuOk Try.prog 76 s_ones := by
  refine pu_ok (tab := [(95, .pu s_span)]) hmix (TabOk.cons (e := .pu s_span) ok_span TabOk.nil) Try.func76 rfl Try.results76 Try.ntmps76 (by kernel_rfl) (by kernel_rfl) ?_
  intro args v h
  unfold s_ones at h
  split at h
  · rename_i a s
    split at h
    · rename_i hc
      simp only [Option.some.injEq] at h; subst h
      refine ⟨by simp only [List.length_cons, List.length_nil]; decide, rfl, rfl, ?_⟩
      obtain ⟨ia, is⟩ := hc
      have bF := @spanF_b a s
      have bT := @spanT_b a s
      have hw : ∀ g : BitVec 64, (∀ i : Nat, i < 64 → g.getLsbD i = decide (spanF a s ≤ (i : Int) ∧ (i : Int) < spanT a s)) → g = onesU a s := fun g hg => ofG_ext fun i hi => by rw [hg i hi, span_in hi]
      obtain ⟨f, hf⟩ := Int.eq_ofNat_of_zero_le bF.1
      obtain ⟨t, ht⟩ := Int.eq_ofNat_of_zero_le bT.1
      rw [hf, ht] at hw
      by_cases h : (t : Int) ≤ (f : Int)
      · have e := hw 0#64 fun i hi => by simp; omega
        simp (config := { maxSteps := 10000000 }) only [go_sem, seval, s_span_eq, ia, is, hf, ht, h, ← e]
      · have e := hw _ fun i hi => by rw [ones_eq (f := f) (t := t) (by omega) (by omega) i hi]; simp
        have e1 : w64 ((t : Int) - f) = ((t - f : Nat) : Int) := by rw [w64_of (by omega)]; omega
        have e2 : w64 (64 - ((t - f : Nat) : Int)) = ((64 - (t - f) : Nat) : Int) := by rw [w64_of (by omega)]; omega
        have e3 := ofI_nat (n := 64 - (t - f)) (by omega)
        have e4 := ofI_nat (n := f) (by omega)
        simp (config := { maxSteps := 10000000 }) only [go_sem, seval, s_span_eq, ia, is, hf, ht, h, ← e, e1, e2, e3, e4]
    · simp at h
  · simp at h

theorem bitB_n {w : BitVec 64} {i : Nat} : bitB w i = w.getLsbD i := by
  rcases Nat.lt_or_ge i 64 with h | h
  · exact bitB_nat h
  · rw [bitB_out (by omega), BitVec.getLsbD_of_ge _ _ h]
theorem shiftU_r {w : BitVec 64} {n : Nat} : shiftU w (-(n : Int)) = w >>> n := by
  refine (ofG_ext fun i hi => ?_).symm
  have e : (i : Int) - -(n : Int) = ((n + i : Nat) : Int) := by omega
  rw [BitVec.getLsbD_ushiftRight, e, bitB_n]
theorem shiftU_l {w : BitVec 64} {n : Nat} : shiftU w (n : Int) = w <<< n := by
  refine (ofG_ext fun i hi => ?_).symm
  rw [BitVec.getLsbD_shiftLeft]
  by_cases h : i < n
  · rw [bitB_out (by omega)]; simp [h]
  · have e : (i : Int) - (n : Int) = ((i - n : Nat) : Int) := by omega
    rw [e, bitB_n]; simp [h, hi]
theorem shiftU_0 {w : BitVec 64} {y : Int} (h : 64 ≤ y ∨ y ≤ -64) : shiftU w y = 0#64 := by
  refine (ofG_ext fun i hi => ?_).symm
  rw [bitB_out (by omega)]; simp
def s_shift (args : List AV) : Option AV :=
  match args with
  | [.c (.u w), .c (.i y)] => if inR y then some (.c (.u (shiftU w y))) else none
  | _ => none
theorem s_shift_eq {w y} : s_shift [.c (.u w), .c (.i y)] = if inR y then some (.c (.u (shiftU w y))) else none := rfl
set_option maxRecDepth 100000 in
set_option maxHeartbeats 2000000 in
theorem ok_shift : PuOk Try.prog 78 s_shift := by
  refine pu_ok (tab := []) hmix TabOk.nil Try.func78 rfl Try.results78 Try.ntmps78 (by kernel_rfl) (by kernel_rfl) ?_
  intro args v h
  unfold s_shift at h
  split at h
  · rename_i w y
    split at h
    · rename_i hc
      simp only [Option.some.injEq] at h; subst h
      refine ⟨by simp only [List.length_cons, List.length_nil]; decide, rfl, rfl, ?_⟩
      obtain ⟨yl, yh⟩ := hc
      by_cases h1 : 64 ≤ y
      · have e := shiftU_0 (w := w) (y := y) (.inl h1)
        simp (config := { maxSteps := 10000000 }) only [go_sem, seval, h1, e]
      · by_cases h2 : y ≤ -64
        · have e := shiftU_0 (w := w) (y := y) (.inr h2)
          simp (config := { maxSteps := 10000000 }) only [go_sem, seval, h1, h2, e]
        · by_cases h3 : y < 0
          · obtain ⟨n, rfl⟩ : ∃ n : Nat, y = -(n : Int) := ⟨y.natAbs, by omega⟩
            have e1 : w64 (-(-(n : Int))) = (n : Int) := by rw [w64_of (by omega)]; omega
            have e2 := ofI_nat (n := n) (by omega)
            simp (config := { maxSteps := 10000000 }) only [go_sem, seval, h1, h2, h3, shiftU_r, e1, e2]
          · obtain ⟨n, rfl⟩ := Int.eq_ofNat_of_zero_le (by omega : 0 ≤ y)
            have e2 := ofI_nat (n := n) (by omega)
            simp (config := { maxSteps := 10000000 }) only [go_sem, seval, h1, h2, h3, shiftU_l, e2]
    · simp at h
  · simp at h

theorem cut_eq {w : BitVec 64} {a s : Int} : shiftU w (-a) &&& onesU 0 s = cutU w a s := by
  refine ofG_ext fun i hi => ?_
  rw [BitVec.getLsbD_and, shiftU, onesU, ofG_get hi, ofG_get hi]
  have e : (i : Int) - -a = a + i := by omega
  have e2 : inP 0 s i = decide ((i : Int) < s) := by unfold inP; apply decide_eq_decide.2; omega
  rw [e, e2, Bool.and_comm]
theorem cut_0 {w : BitVec 64} {a s : Int} (h : s < 1 ∨ 63 < a ∨ a ≤ -64) : cutU w a s = 0#64 := by
  refine (ofG_ext fun i hi => ?_).symm
  have : (decide ((i : Int) < s) && bitB w (a + i)) = false := by
    rcases h with h | h | h
    · have : ¬ (i : Int) < s := by omega
      simp [this]
    · rw [bitB_out (by omega)]; simp
    · rw [bitB_out (by omega)]; simp
  rw [this]; simp
def s_cut (args : List AV) : Option AV :=
  match args with
  | [.c (.u w), .c (.i a), .c (.i s)] => if inR a ∧ inR s then some (.c (.u (cutU w a s))) else none
  | _ => none
theorem s_cut_eq {w a s} : s_cut [.c (.u w), .c (.i a), .c (.i s)] = if inR a ∧ inR s then some (.c (.u (cutU w a s))) else none := rfl
set_option maxRecDepth 100000 in
set_option maxHeartbeats 2000000 in
theorem ok_cut : PuOk Try.prog 50 s_cut := by
  refine pu_ok (tab := [(78, .pu s_shift), (76, .pu s_ones)]) hmix (TabOk.cons (e := .pu s_shift) ok_shift (TabOk.cons (e := .pu s_ones) ok_ones TabOk.nil)) Try.func50 rfl Try.results50 Try.ntmps50 (by kernel_rfl) (by kernel_rfl) ?_
  intro args v h
  unfold s_cut at h
  split at h
  · rename_i w a s
    split at h
    · rename_i hc
      simp only [Option.some.injEq] at h; subst h
      refine ⟨by simp only [List.length_cons, List.length_nil]; decide, rfl, rfl, ?_⟩
      obtain ⟨ia, is⟩ := hc
      have i0 : inR 0 := ⟨by omega, by omega⟩
      by_cases h1 : s < 1
      · have e := cut_0 (w := w) (a := a) (s := s) (.inl h1)
        simp (config := { maxSteps := 10000000 }) only [go_sem, seval, s_shift_eq, s_ones_eq, h1, e]
      · by_cases h2 : 63 < a
        · have e := cut_0 (w := w) (a := a) (s := s) (.inr (.inl h2))
          simp (config := { maxSteps := 10000000 }) only [go_sem, seval, s_shift_eq, s_ones_eq, h1, h2, e]
        · by_cases h3 : a ≤ -64
          · have e := cut_0 (w := w) (a := a) (s := s) (.inr (.inr h3))
            simp (config := { maxSteps := 10000000 }) only [go_sem, seval, s_shift_eq, s_ones_eq, h1, h2, h3, e]
          · have e1 : w64 (-a) = -a := w64_of (by omega)
            have i1 : inR (-a) := ⟨by omega, by omega⟩
            simp (config := { maxSteps := 10000000 }) only [go_sem, seval, s_shift_eq, s_ones_eq, h1, h2, h3, e1, i0, i1, is, cut_eq]
    · simp at h
  · simp at h

theorem put_eq {w n : BitVec 64} {a s y : Int} (hy : -64 < a) (h : y = min a 64) : w &&& ~~~(onesU a s) ||| shiftU n y &&& onesU a s = putU w a s n := by
  refine ofG_ext fun i hi => ?_
  simp only [BitVec.getLsbD_or, BitVec.getLsbD_and, BitVec.getLsbD_not, shiftU, onesU, ofG_get hi, hi, decide_true, Bool.true_and]
  cases hp : inP a s i
  · simp
  · have hp : a ≤ (i : Int) ∧ (i : Int) < a + s := by simpa [inP] using hp
    have e : y = a := by omega
    rw [e]; simp
theorem put_low {w n : BitVec 64} {a s : Int} (hy : a ≤ -64) : w &&& ~~~(onesU a s) = putU w a s n := by
  refine ofG_ext fun i hi => ?_
  simp only [BitVec.getLsbD_and, BitVec.getLsbD_not, onesU, ofG_get hi, hi, decide_true, Bool.true_and]
  rw [bitB_out (by omega)]
  cases hp : inP a s i <;> simp

theorem low_eq {w : BitVec 64} {s : Int} : w &&& onesU 0 s = lowU w s := by
  refine ofG_ext fun i hi => ?_
  rw [BitVec.getLsbD_and, onesU, ofG_get hi]
  have e2 : inP 0 s i = decide ((i : Int) < s) := by unfold inP; apply decide_eq_decide.2; omega
  rw [e2, Bool.and_comm]
def s_low (args : List AV) : Option AV :=
  match args with
  | [.c (.u w), .c (.i s)] => if inR s then some (.c (.u (lowU w s))) else none
  | _ => none
theorem s_low_eq {w s} : s_low [.c (.u w), .c (.i s)] = if inR s then some (.c (.u (lowU w s))) else none := rfl
set_option maxRecDepth 100000 in
set_option maxHeartbeats 2000000 in
theorem ok_low : PuOk Try.prog 47 s_low := by
  refine pu_ok (tab := [(76, .pu s_ones)]) hmix (TabOk.cons (e := .pu s_ones) ok_ones TabOk.nil) Try.func47 rfl Try.results47 Try.ntmps47 (by kernel_rfl) (by kernel_rfl) ?_
  intro args v h
  unfold s_low at h
  split at h
  · rename_i w s
    split at h
    · rename_i hc
      simp only [Option.some.injEq] at h; subst h
      refine ⟨by simp only [List.length_cons, List.length_nil]; decide, rfl, rfl, ?_⟩
      have i0 : inR 0 := ⟨by omega, by omega⟩
      simp (config := { maxSteps := 10000000 }) only [go_sem, seval, s_ones_eq, hc, i0, low_eq]
    · simp at h
  · simp at h

end
end Go.Proofs.Ytanblagbkhpolaa
