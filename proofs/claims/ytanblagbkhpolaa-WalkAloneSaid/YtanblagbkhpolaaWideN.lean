/- Plain laws of layer 2's products. -/
import Derived.Test.YtanblagbkhpolaaWdA
namespace Go.Proofs.Ytanblagbkhpolaa
open Go.Am
set_option linter.unusedSimpArgs false
set_option linter.unusedVariables false
noncomputable section

theorem lo32 (a : BitVec 64) : (a &&& 4294967295#64).toNat = a.toNat % 4294967296 := by
  rw [BitVec.toNat_and]; exact Nat.and_two_pow_sub_one_eq_mod a.toNat 32
theorem hi32 (a : BitVec 64) : (a >>> 32).toNat = a.toNat / 4294967296 := by
  rw [BitVec.toNat_ushiftRight, Nat.shiftRight_eq_div_pow]
theorem mul_le32 {x y : Nat} (hx : x < 4294967296) (hy : y < 4294967296) : x * y ≤ 18446744065119617025 := by
  have := Nat.mul_le_mul (show x ≤ 4294967295 by omega) (show y ≤ 4294967295 by omega)
  omega
theorem mulN {x y : BitVec 64} (hx : x.toNat < 4294967296) (hy : y.toNat < 4294967296) : (x * y).toNat = x.toNat * y.toNat := by
  rw [BitVec.toNat_mul, Nat.mod_eq_of_lt]
  have := mul_le32 hx hy
  omega
theorem or_low (x y : BitVec 64) : (x <<< 32 ||| (y &&& 4294967295#64)).toNat = (x.toNat * 4294967296) % 18446744073709551616 + y.toNat % 4294967296 := by
  have h : (x <<< 32) &&& (y &&& 4294967295#64) = 0#64 := by
    apply BitVec.eq_of_getLsbD_eq
    intro i hi
    have e : (4294967295#64).getLsbD i = decide (i < 32) := by
      have : 4294967295#64 = BitVec.ofNat 64 (2 ^ 32 - 1) := rfl
      rw [this, BitVec.getLsbD_ofNat, Nat.testBit_two_pow_sub_one]; simp [hi]
    rw [BitVec.getLsbD_and, BitVec.getLsbD_and, BitVec.getLsbD_shiftLeft, e]
    by_cases h : i < 32
    · simp [h]
    · simp [h]
  rw [← BitVec.add_eq_or_of_and_eq_zero _ _ h, BitVec.toNat_add, lo32, BitVec.toNat_shiftLeft, Nat.shiftLeft_eq]
  omega
theorem times_nat (a b : BitVec 64) : (timesHi a b).toNat * 18446744073709551616 + (timesLo a b).toNat = a.toNat * b.toNat := by
  have la := a.isLt
  have lb := b.isLt
  have ha := hi32 a
  have hb := hi32 b
  have ka := lo32 a
  have kb := lo32 b
  unfold timesHi timesLo
  generalize a >>> 32 = ah at *
  generalize b >>> 32 = bh at *
  generalize a &&& 4294967295#64 = al at *
  generalize b &&& 4294967295#64 = bl at *
  have ea : a.toNat = ah.toNat * 4294967296 + al.toNat := by omega
  have eb : b.toNat = bh.toNat * 4294967296 + bl.toNat := by omega
  have a1 : ah.toNat < 4294967296 := by omega
  have a2 : al.toNat < 4294967296 := by omega
  have b1 : bh.toNat < 4294967296 := by omega
  have b2 : bl.toNat < 4294967296 := by omega
  have pP := mulN a1 b1
  have pQ := mulN a1 b2
  have pR := mulN a2 b1
  have pS := mulN a2 b2
  have lP := mul_le32 a1 b1
  have lQ := mul_le32 a1 b2
  have lR := mul_le32 a2 b1
  have lS := mul_le32 a2 b2
  have hab : a.toNat * b.toNat = (ah.toNat * bh.toNat) * 18446744073709551616 + (ah.toNat * bl.toNat) * 4294967296 + (al.toNat * bh.toNat) * 4294967296 + al.toNat * bl.toNat := by
    rw [ea, eb, Nat.add_mul, Nat.mul_add, Nat.mul_add]
    have m1 : ah.toNat * 4294967296 * (bh.toNat * 4294967296) = ah.toNat * bh.toNat * 18446744073709551616 := by
      rw [Nat.mul_mul_mul_comm]
    have m2 : ah.toNat * 4294967296 * bl.toNat = ah.toNat * bl.toNat * 4294967296 := Nat.mul_right_comm ..
    have m3 : al.toNat * (bh.toNat * 4294967296) = al.toNat * bh.toNat * 4294967296 := (Nat.mul_assoc ..).symm
    rw [m1, m2, m3]; omega
  rw [hab]
  generalize ah.toNat * bh.toNat = P at *
  generalize ah.toNat * bl.toNat = Q at *
  generalize al.toNat * bh.toNat = R at *
  generalize al.toNat * bl.toNat = S at *
  generalize ah * bh = vP at *
  generalize ah * bl = vQ at *
  generalize al * bh = vR at *
  generalize al * bl = vS at *
  have eS := hi32 vS
  have eM : (vQ + vS >>> 32).toNat = Q + S / 4294967296 := by rw [BitVec.toNat_add, eS]; omega
  generalize vQ + vS >>> 32 = vM at *
  have eMl := lo32 vM
  have eMh := hi32 vM
  have eO : (vR + (vM &&& 4294967295#64)).toNat = R + (Q + S / 4294967296) % 4294967296 := by rw [BitVec.toNat_add, eMl]; omega
  generalize vR + (vM &&& 4294967295#64) = vO at *
  have eOh := hi32 vO
  rw [or_low, BitVec.toNat_add, BitVec.toNat_add, eMh, eOh]
  omega

theorem sz_pos {a : BitVec 64} (h : ¬ a.toInt < 0) : sizeU a = a := if_neg h
theorem sz_neg {a : BitVec 64} (h : a.toInt < 0) : (sizeU a).toNat = 18446744073709551616 - a.toNat := by
  unfold sizeU
  rw [if_pos h, BitVec.toNat_neg]
  have := BitVec.toInt_eq_toNat_cond a
  have := a.isLt
  have : a.toNat ≠ 0 := by
    intro e
    have : a = 0#64 := BitVec.eq_of_toNat_eq (by simpa using e)
    subst this; simp at h
  omega
theorem int_neg {a : BitVec 64} : a.toInt < 0 ↔ 9223372036854775808 ≤ a.toNat := by
  have := BitVec.toInt_eq_toNat_cond a
  have := a.isLt
  constructor
  · intro h; split at * <;> omega
  · intro h; rw [if_neg (by omega)] at *; omega
theorem negHi_nat (h l : BitVec 64) : (negHi h l).toNat = if l.toNat = 0 then (18446744073709551616 - h.toNat) % 18446744073709551616 else 18446744073709551615 - h.toNat := by
  have lh := h.isLt
  have ll := l.isLt
  unfold negHi carryU
  have e : (~~~l + 1#64 < ~~~l) ↔ l.toNat = 0 := by
    rw [BitVec.lt_def, BitVec.toNat_add, BitVec.toNat_not]
    simp only [BitVec.toNat_ofNat]
    omega
  by_cases h0 : l.toNat = 0
  · rw [if_pos (e.2 h0), if_pos h0, BitVec.toNat_add, BitVec.toNat_add, BitVec.toNat_not]
    simp only [BitVec.toNat_ofNat]
    omega
  · rw [if_neg (fun h => h0 (e.1 h)), if_neg h0, BitVec.toNat_add, BitVec.toNat_add, BitVec.toNat_not]
    simp only [BitVec.toNat_ofNat]
    omega
def dropU (c : Prop) [Decidable c] (b : BitVec 64) : BitVec 64 := if c then b else 0#64
theorem mixed_eq (a b : BitVec 64) : highMixedU a b = timesHi a b - dropU (a.toInt < 0) b := by
  unfold highMixedU dropU
  by_cases h : a.toInt < 0
  · rw [if_pos h, if_pos h]
    have t1 := times_nat (sizeU a) b
    have t2 := times_nat a b
    have s := sz_neg h
    have la := a.isLt
    have lb := b.isLt
    have hs : (sizeU a).toNat * b.toNat + a.toNat * b.toNat = 18446744073709551616 * b.toNat := by
      rw [← Nat.add_mul]; congr 1; omega
    have n := negHi_nat (timesHi (sizeU a) b) (timesLo (sizeU a) b)
    generalize (sizeU a).toNat * b.toNat = Y at *
    generalize a.toNat * b.toNat = X at *
    have l1 := (timesLo (sizeU a) b).isLt
    have l2 := (timesLo a b).isLt
    have l3 := (timesHi a b).isLt
    have l4 := (timesHi (sizeU a) b).isLt
    apply BitVec.eq_of_toNat_eq
    rw [n, BitVec.toNat_sub]
    generalize (timesLo (sizeU a) b).toNat = l at *
    generalize (timesLo a b).toNat = L at *
    generalize (timesHi a b).toNat = H at *
    generalize (timesHi (sizeU a) b).toNat = h' at *
    split <;> omega
  · rw [if_neg h, if_neg h, sz_pos h]
    simp
theorem times_comm (a b : BitVec 64) : timesHi a b = timesHi b a ∧ timesLo a b = timesLo b a := by
  have t1 := times_nat a b
  have t2 := times_nat b a
  rw [Nat.mul_comm b.toNat a.toNat] at t2
  have l1 := (timesLo a b).isLt
  have l2 := (timesLo b a).isLt
  exact ⟨BitVec.eq_of_toNat_eq (by omega), BitVec.eq_of_toNat_eq (by omega)⟩
theorem high_eq (a b : BitVec 64) : highU a b = timesHi a b - dropU (a.toInt < 0) b - dropU (b.toInt < 0) a := by
  by_cases ha : a.toInt < 0
  · by_cases hb : b.toInt < 0
    · unfold highU dropU
      rw [if_pos (by simp [ha, hb]), if_pos ha, if_pos hb]
      have t1 := times_nat (sizeU a) (sizeU b)
      have t2 := times_nat a b
      have sa := sz_neg ha
      have sb := sz_neg hb
      have la := a.isLt
      have lb := b.isLt
      have hs : (sizeU a).toNat * (sizeU b).toNat + 18446744073709551616 * a.toNat + 18446744073709551616 * b.toNat = 18446744073709551616 * 18446744073709551616 + a.toNat * b.toNat := by
        have e1 : (sizeU a).toNat * (sizeU b).toNat + a.toNat * (sizeU b).toNat = 18446744073709551616 * (sizeU b).toNat := by rw [← Nat.add_mul]; congr 1; omega
        have e2 : a.toNat * (sizeU b).toNat + a.toNat * b.toNat = a.toNat * 18446744073709551616 := by rw [← Nat.mul_add]; congr 1; omega
        generalize (sizeU a).toNat * (sizeU b).toNat = Y at *
        generalize a.toNat * (sizeU b).toNat = Z at *
        generalize a.toNat * b.toNat = X at *
        omega
      generalize (sizeU a).toNat * (sizeU b).toNat = Y at *
      generalize a.toNat * b.toNat = X at *
      have l1 := (timesLo (sizeU a) (sizeU b)).isLt
      have l2 := (timesLo a b).isLt
      have l3 := (timesHi a b).isLt
      have l4 := (timesHi (sizeU a) (sizeU b)).isLt
      apply BitVec.eq_of_toNat_eq
      rw [BitVec.toNat_sub, BitVec.toNat_sub]
      generalize (timesLo (sizeU a) (sizeU b)).toNat = l at *
      generalize (timesLo a b).toNat = L at *
      generalize (timesHi a b).toNat = H at *
      generalize (timesHi (sizeU a) (sizeU b)).toNat = h' at *
      omega
    · have m := mixed_eq a b
      unfold highU
      unfold highMixedU at m
      rw [if_pos ha] at m
      rw [if_neg (by simp [ha, hb]), sz_pos hb, m]
      unfold dropU
      rw [if_neg hb]; simp
  · by_cases hb : b.toInt < 0
    · have m := mixed_eq b a
      unfold highU
      unfold highMixedU at m
      rw [if_pos hb] at m
      rw [if_neg (by simp [ha, hb]), sz_pos ha, (times_comm a (sizeU b)).1, (times_comm a (sizeU b)).2, m, (times_comm b a).1]
      unfold dropU
      rw [if_neg ha]; simp
    · unfold highU dropU
      rw [if_pos (by simp [ha, hb]), if_neg ha, if_neg hb, sz_pos ha, sz_pos hb]; simp
theorem back_eq {hi lo b : BitVec 64} (hb : b ≠ 0#64) : timesHi (oL hi lo b) b + oH hi b * b + 0#64 + carryU (timesLo (oL hi lo b) b) (oR hi lo b) = hi ∧ timesLo (oL hi lo b) b + oR hi lo b = lo ∧ oR hi lo b < b := by
  obtain ⟨o1, o2, o3⟩ := over_ref (hi := hi) (lo := lo) hb
  obtain ⟨n1, n2, n3⟩ := over_nat (hi := hi) (lo := lo) hb
  rw [← o1] at n1 n2
  rw [← o2] at n2
  rw [← o3] at n3
  have hb0 : 0 < b.toNat := by
    rcases Nat.eq_zero_or_pos b.toNat with h | h
    · exact absurd (BitVec.eq_of_toNat_eq (by simpa using h)) hb
    · exact h
  have t := times_nat (oL hi lo b) b
  have hd := Nat.div_add_mod (hi.toNat * 2 ^ 64 + lo.toNat) b.toNat
  rw [n2, ← n3, Nat.mul_add, ← Nat.mul_assoc, Nat.mul_comm b.toNat (oL hi lo b).toNat, Nat.mul_comm b.toNat (oH hi b).toNat, ← t] at hd
  have lr : (oR hi lo b).toNat < b.toNat := by rw [n3]; exact Nat.mod_lt _ hb0
  have lq : (oH hi b).toNat * b.toNat ≤ hi.toNat := by rw [n1]; exact Nat.div_mul_le_self _ _
  have l1 := hi.isLt
  have l2 := lo.isLt
  have l3 := (timesLo (oL hi lo b) b).isLt
  have l4 := (oR hi lo b).isLt
  have c : (carryU (timesLo (oL hi lo b) b) (oR hi lo b)).toNat = if 18446744073709551616 ≤ (timesLo (oL hi lo b) b).toNat + (oR hi lo b).toNat then 1 else 0 := by
    unfold carryU
    have e : (timesLo (oL hi lo b) b + oR hi lo b < timesLo (oL hi lo b) b) ↔ 18446744073709551616 ≤ (timesLo (oL hi lo b) b).toNat + (oR hi lo b).toNat := by
      rw [BitVec.lt_def, BitVec.toNat_add]; omega
    by_cases h : 18446744073709551616 ≤ (timesLo (oL hi lo b) b).toNat + (oR hi lo b).toNat
    · rw [if_pos (e.2 h), if_pos h]; rfl
    · rw [if_neg (fun x => h (e.1 x)), if_neg h]; rfl
  refine ⟨BitVec.eq_of_toNat_eq ?_, BitVec.eq_of_toNat_eq ?_, lr⟩
  · rw [BitVec.toNat_add, BitVec.toNat_add, BitVec.toNat_add, BitVec.toNat_mul, c]
    simp only [BitVec.toNat_ofNat]
    generalize (oH hi b).toNat * b.toNat = N at *
    generalize (timesLo (oL hi lo b) b).toNat = l at *
    generalize (timesHi (oL hi lo b) b).toNat = h at *
    generalize (oR hi lo b).toNat = r at *
    split <;> omega
  · rw [BitVec.toNat_add]
    generalize (oH hi b).toNat * b.toNat = N at *
    generalize (timesLo (oL hi lo b) b).toNat = l at *
    generalize (timesHi (oL hi lo b) b).toNat = h at *
    generalize (oR hi lo b).toNat = r at *
    omega

end
end Go.Proofs.Ytanblagbkhpolaa
