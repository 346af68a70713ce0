/- Plain laws of layer 2: what the reference's division bit by bit comes to. -/
import Derived.Test.YtflcjnekmjdckaaGreatWideC
namespace Go.Proofs.YtflcjnekmjdckaaGreat
open Go.Am
set_option linter.unusedSimpArgs false
set_option linter.unusedVariables false
noncomputable section

theorem bitU_nat {w : BitVec 64} {i : Nat} (h : i ≤ 63) : (bitU w i).toNat = w.toNat / 2 ^ i % 2 := by
  unfold bitU
  rw [if_pos (by omega)]
  simp only [Int.toNat_natCast, BitVec.getLsbD, Nat.testBit_eq_decide_div_mod_eq]
  have h2 : w.toNat / 2 ^ i % 2 < 2 := Nat.mod_lt _ (by omega)
  by_cases hb : w.toNat / 2 ^ i % 2 = 1
  · simp [hb]
  · have h0 : w.toNat / 2 ^ i % 2 = 0 := by omega
    simp [h0]

theorem ovBit_nat {hi lo : BitVec 64} {k : Nat} (hk : k < 128) : (ovBit hi lo k).toNat = (hi.toNat * 2 ^ 64 + lo.toNat) / 2 ^ (127 - k) % 2 := by
  have hl : lo.toNat < 2 ^ 64 := lo.isLt
  unfold ovBit
  split
  · rename_i h
    have e : (127 - (k : Int) - 64) = ((63 - k : Nat) : Int) := by omega
    rw [e, bitU_nat (by omega)]
    have e2 : 127 - k = 64 + (63 - k) := by omega
    rw [e2, Nat.pow_add, ← Nat.div_div_eq_div_mul]
    have e3 : (hi.toNat * 2 ^ 64 + lo.toNat) / 2 ^ 64 = hi.toNat := by omega
    rw [e3]
  · rename_i h
    have e : (127 - (k : Int)) = ((127 - k : Nat) : Int) := by omega
    rw [e, bitU_nat (by omega)]
    have hj : 127 - k ≤ 63 := by omega
    generalize 127 - k = j at hj
    have e2 : 2 ^ 64 = 2 ^ (63 - j) * 2 * 2 ^ j := by rw [← Nat.pow_succ, ← Nat.pow_add]; congr 1; omega
    rw [e2, ← Nat.mul_assoc, Nat.add_comm, Nat.add_mul_div_right _ _ (Nat.two_pow_pos j), ← Nat.mul_assoc, Nat.add_mul_mod_self_right]

theorem pow_half {N k : Nat} (hk : k < 128) : N / 2 ^ (128 - k) = N / 2 ^ (127 - k) / 2 := by
  have : 128 - k = (127 - k) + 1 := by omega
  rw [this, Nat.pow_succ, Nat.div_div_eq_div_mul]

/-- one bit more -/
theorem ov_step {M M' r b bit : Nat} (hb : 0 < b) (hM : M' = 2 * M + bit) (hr : r = M % b) : (2 * r + bit < b → M' % b = 2 * r + bit ∧ M' / b = 2 * (M / b)) ∧ (b ≤ 2 * r + bit → bit < 2 → M' % b = 2 * r + bit - b ∧ M' / b = 2 * (M / b) + 1) := by
  have h1 : M = b * (M / b) + M % b := (Nat.div_add_mod M b).symm
  have h2 : M % b < b := Nat.mod_lt _ hb
  have e : M' = 2 * r + bit + b * (2 * (M / b)) := by
    have : b * (2 * (M / b)) = 2 * (b * (M / b)) := by rw [Nat.mul_left_comm]
    omega
  constructor
  · intro h
    rw [e, Nat.add_mul_mod_self_left, Nat.add_mul_div_left _ _ hb, Nat.mod_eq_of_lt h, Nat.div_eq_of_lt h]
    omega
  · intro h hbit
    have h3 : 2 * r + bit - b < b := by omega
    have e' : M' = (2 * r + bit - b) + b * (2 * (M / b) + 1) := by rw [Nat.mul_add, Nat.mul_one]; omega
    rw [e', Nat.add_mul_mod_self_left, Nat.add_mul_div_left _ _ hb, Nat.mod_eq_of_lt h3, Nat.div_eq_of_lt h3]
    omega

theorem ov_inv {hi lo b : BitVec 64} (hb : b ≠ 0#64) (k : Nat) (hk : k ≤ 128) :
    (ovR hi lo b k).toNat = (hi.toNat * 2 ^ 64 + lo.toNat) / 2 ^ (128 - k) % b.toNat ∧
    (k < 128 → (ovQ hi lo b k).toNat + 2 * ((hi.toNat * 2 ^ 64 + lo.toNat) / 2 ^ (128 - k) / b.toNat) = (hi.toNat * 2 ^ 64 + lo.toNat) / 2 ^ (127 - k) / b.toNat) ∧ (ovQ hi lo b k).toNat < 2 := by
  have hl : lo.toNat < 2 ^ 64 := lo.isLt
  have hh : hi.toNat < 2 ^ 64 := hi.isLt
  have hb0 : 0 < b.toNat := by
    rcases Nat.eq_zero_or_pos b.toNat with h | h
    · exact absurd (BitVec.eq_of_toNat_eq (by simpa using h)) hb
    · exact h
  have hq2 : ∀ k, (ovQ hi lo b k).toNat < 2 := by
    intro k; unfold ovQ; split <;> simp
  generalize hN : hi.toNat * 2 ^ 64 + lo.toNat = N
  have key : ∀ k, k < 128 → (ovR hi lo b k).toNat = N / 2 ^ (128 - k) % b.toNat →
      (ovR hi lo b (k + 1)).toNat = N / 2 ^ (127 - k) % b.toNat ∧ (ovQ hi lo b k).toNat + 2 * (N / 2 ^ (128 - k) / b.toNat) = N / 2 ^ (127 - k) / b.toNat := by
    intro k hk hr
    have hbit : (ovBit hi lo k).toNat = N / 2 ^ (127 - k) % 2 := by rw [← hN]; exact ovBit_nat hk
    have hM : N / 2 ^ (127 - k) = 2 * (N / 2 ^ (128 - k)) + (ovBit hi lo k).toNat := by rw [hbit, pow_half hk]; omega
    have hst := ov_step hb0 hM hr
    have hb2 : (ovBit hi lo k).toNat < 2 := by rw [hbit]; exact Nat.mod_lt _ (by omega)
    have hrb : (ovR hi lo b k).toNat < b.toNat := by rw [hr]; exact Nat.mod_lt _ hb0
    have hbl : b.toNat < 2 ^ 64 := b.isLt
    simp only [ovR, ovQ]
    generalize ovR hi lo b k = r at *
    generalize ovBit hi lo k = B at *
    have e1 : (2#64 * r + B).toNat = (2 * r.toNat + B.toNat) % 2 ^ 64 := by simp [BitVec.toNat_add, BitVec.toNat_mul]
    have e2 : (2#64 * r).toNat = (2 * r.toNat) % 2 ^ 64 := by simp [BitVec.toNat_mul]
    have hc : ((9223372036854775807#64 < r ∨ 2#64 * r + B < 2#64 * r) ∨ b ≤ 2#64 * r + B) ↔ b.toNat ≤ 2 * r.toNat + B.toNat := by
      simp only [BitVec.lt_def, BitVec.le_def, e1, e2]
      simp only [BitVec.toNat_ofNat]
      omega
    by_cases h : b.toNat ≤ 2 * r.toNat + B.toNat
    · obtain ⟨h1, h2⟩ := hst.2 h hb2
      rw [if_pos (hc.2 h), if_pos (hc.2 h), h1, h2]
      refine ⟨?_, by simp; omega⟩
      rw [BitVec.toNat_sub, e1]
      omega
    · obtain ⟨h1, h2⟩ := hst.1 (by omega)
      rw [if_neg (fun h' => h (hc.1 h')), if_neg (fun h' => h (hc.1 h')), h1, h2]
      refine ⟨?_, by simp⟩
      rw [e1]
      omega
  have inv : ∀ k, k ≤ 128 → (ovR hi lo b k).toNat = N / 2 ^ (128 - k) % b.toNat := by
    intro k
    induction k with
    | zero => intro _; have : N / 2 ^ 128 = 0 := by omega
              simp [ovR, this]
    | succ k ih =>
      intro hk
      have := (key k (by omega) (ih (by omega))).1
      have e : 127 - k = 128 - (k + 1) := by omega
      rw [this, e]
  exact ⟨inv k hk, fun h => (key k h (inv k hk)).2, hq2 k⟩

theorem ovQh_nat {hi lo b : BitVec 64} (hb : b ≠ 0#64) (a k : Nat) (hk : k ≤ 64) (ha : a + k ≤ 128) :
    (hi.toNat * 2 ^ 64 + lo.toNat) / 2 ^ (128 - (a + k)) / b.toNat = (hi.toNat * 2 ^ 64 + lo.toNat) / 2 ^ (128 - a) / b.toNat * 2 ^ k + (ovQh hi lo b a k).toNat ∧ (ovQh hi lo b a k).toNat < 2 ^ k := by
  induction k with
  | zero => simp [ovQh]
  | succ k ih =>
    obtain ⟨h1, h2⟩ := ih (by omega) (by omega)
    obtain ⟨_, h3, h4⟩ := ov_inv (hi := hi) (lo := lo) hb (a + k) (by omega)
    have h3 := h3 (by omega)
    have hp : 2 ^ k * 2 ≤ 2 ^ 64 := by rw [← Nat.pow_succ]; exact Nat.pow_le_pow_right (by omega) (by omega)
    have e : (ovQh hi lo b a (k + 1)).toNat = 2 * (ovQh hi lo b a k).toNat + (ovQ hi lo b (a + k)).toNat := by
      simp only [ovQh, BitVec.toNat_add, BitVec.toNat_mul, BitVec.toNat_ofNat]
      omega
    have e2 : 128 - (a + (k + 1)) = 127 - (a + k) := by omega
    rw [e, e2, ← h3, h1]
    have hp2 : 2 ^ (k + 1) = 2 ^ k * 2 := Nat.pow_succ ..
    constructor
    · generalize (hi.toNat * 2 ^ 64 + lo.toNat) / 2 ^ (128 - a) / b.toNat = X
      have : X * 2 ^ (k + 1) = X * 2 ^ k * 2 := by rw [hp2, Nat.mul_assoc]
      omega
    · omega

/-- the reference's division of two words -/
theorem over_nat {hi lo b : BitVec 64} (hb : b ≠ 0#64) :
    (ovQh hi lo b 0 64).toNat = hi.toNat / b.toNat ∧ (hi.toNat * 2 ^ 64 + lo.toNat) / b.toNat = (ovQh hi lo b 0 64).toNat * 2 ^ 64 + (ovQh hi lo b 64 64).toNat ∧ (ovR hi lo b 128).toNat = (hi.toNat * 2 ^ 64 + lo.toNat) % b.toNat := by
  have hl : lo.toNat < 2 ^ 64 := lo.isLt
  have hh : hi.toNat < 2 ^ 64 := hi.isLt
  obtain ⟨h1, _⟩ := ovQh_nat (hi := hi) (lo := lo) hb 0 64 (by omega) (by omega)
  obtain ⟨h2, _⟩ := ovQh_nat (hi := hi) (lo := lo) hb 64 64 (by omega) (by omega)
  obtain ⟨h3, _⟩ := ov_inv (hi := hi) (lo := lo) hb 128 (by omega)
  have e0 : (hi.toNat * 2 ^ 64 + lo.toNat) / 2 ^ 128 = 0 := by omega
  have e1 : (hi.toNat * 2 ^ 64 + lo.toNat) / 2 ^ 64 = hi.toNat := by omega
  simp only [Nat.reduceAdd, Nat.reduceSub, e0, e1, Nat.zero_div, Nat.zero_mul, Nat.zero_add, Nat.pow_zero, Nat.div_one] at h1 h2 h3
  exact ⟨h1.symm, h2.trans (by rw [h1]), h3⟩

theorem over_small {a b : BitVec 64} (hb : b ≠ 0#64) : ovQh 0#64 a b 64 64 = a / b ∧ ovR 0#64 a b 128 = a % b := by
  obtain ⟨h1, h2, h3⟩ := over_nat (hi := 0#64) (lo := a) hb
  simp at h1 h2 h3
  rw [h1] at h2
  exact ⟨BitVec.eq_of_toNat_eq (by simp; omega), BitVec.eq_of_toNat_eq (by simp; omega)⟩

theorem belowU_msb {a : BitVec 64} : belowU a = a.msb := by
  have : a.msb = a.getLsbD 63 := by simp [BitVec.msb_eq_getLsbD_last]
  rw [this]
  unfold belowU bitU
  rw [if_pos (by omega)]
  show decide ((if a.getLsbD 63 = true then 1#64 else 0#64) = 1#64) = a.getLsbD 63
  cases a.getLsbD 63 <;> rfl
theorem amountU_nat {a : BitVec 64} : (amountU a).toNat = a.toInt.natAbs := by
  unfold amountU
  rw [belowU_msb, BitVec.toInt_eq_msb_cond]
  have hl : a.toNat < 2 ^ 64 := a.isLt
  split
  · rename_i h
    have := BitVec.msb_eq_true_iff_two_mul_ge.1 h
    simp only [BitVec.toNat_sub, BitVec.toNat_ofNat]
    omega
  · rename_i h
    simp
theorem ofInt_w64 {x : Int} : BitVec.ofInt 64 (w64 x) = BitVec.ofInt 64 x := by
  apply BitVec.eq_of_toNat_eq
  simp only [BitVec.toNat_ofInt]
  congr 1
  unfold w64; simp only [IntKind.wrap, IntKind.bits, IntKind.signed, Bool.true_and]
  split <;> simp at * <;> omega
theorem tdiv_abs (a b : Int) : a.tdiv b = if decide (a < 0) = decide (b < 0) then ((a.natAbs / b.natAbs : Nat) : Int) else -((a.natAbs / b.natAbs : Nat) : Int) := by
  rcases (by omega : a < 0 ∨ 0 ≤ a) with ha | ha <;> rcases (by omega : b < 0 ∨ 0 ≤ b) with hb | hb
  · have e1 : a = -(a.natAbs : Int) := by omega
    have e2 : b = -(b.natAbs : Int) := by omega
    rw [if_pos (by simp [ha, hb])]
    generalize a.natAbs = x at *; generalize b.natAbs = y at *
    subst e1 e2
    rw [Int.neg_tdiv_neg, Int.ofNat_tdiv]
  · have e1 : a = -(a.natAbs : Int) := by omega
    have e2 : b = (b.natAbs : Int) := by omega
    rw [if_neg (by simp [ha]; omega)]
    generalize a.natAbs = x at *; generalize b.natAbs = y at *
    subst e1 e2
    rw [Int.neg_tdiv, Int.ofNat_tdiv]
  · have e1 : a = (a.natAbs : Int) := by omega
    have e2 : b = -(b.natAbs : Int) := by omega
    rw [if_neg (by simp [hb]; omega)]
    generalize a.natAbs = x at *; generalize b.natAbs = y at *
    subst e1 e2
    rw [Int.tdiv_neg, Int.ofNat_tdiv]
  · have e1 : a = (a.natAbs : Int) := by omega
    have e2 : b = (b.natAbs : Int) := by omega
    rw [if_pos (by simp; omega)]
    generalize a.natAbs = x at *; generalize b.natAbs = y at *
    subst e1 e2
    rw [Int.ofNat_tdiv]
theorem amount_ne {b : BitVec 64} (h : b ≠ 0#64) : amountU b ≠ 0#64 := by
  intro e
  have := amountU_nat (a := b)
  rw [e] at this
  exact h (BitVec.eq_of_toInt_eq (by simp at this; simp; omega))
theorem below_neg {a : BitVec 64} : belowU a = decide (a.toInt < 0) := by
  rw [belowU_msb, BitVec.msb_eq_toInt]
theorem divU_ref (a b : BitVec 64) : divU a b = refDivU a b true := by
  unfold divU refDivU
  split
  · rfl
  · rename_i h; rw [if_pos rfl, (over_small h).1]
theorem remU_ref (a b : BitVec 64) : a - b * divU a b = refRemU a b true := by
  unfold divU refRemU
  split
  · rename_i h; simp [h]
  · rename_i h
    rw [if_pos rfl, (over_small h).2]
    apply BitVec.eq_of_toNat_eq
    have hd := Nat.div_add_mod a.toNat b.toNat
    have hl : a.toNat < 2 ^ 64 := a.isLt
    simp only [BitVec.toNat_sub, BitVec.toNat_mul, BitVec.toNat_udiv, BitVec.toNat_umod]
    generalize b.toNat * (a.toNat / b.toNat) = X at *
    omega

/-- the quotient as a number with a sign -/
theorem divS_int (a b : BitVec 64) (hb : b ≠ 0#64) : divS a b = BitVec.ofInt 64 (a.toInt.tdiv b.toInt) := by
  unfold divS
  rw [if_neg hb]
  split
  · rename_i h
    subst h
    have : (18446744073709551615#64).toInt = -1 := by decide
    rw [this, Int.tdiv_neg, Int.tdiv_one, BitVec.ofInt_neg, BitVec.ofInt_toInt]
  · exact ofInt_w64
theorem quo_abs (a b : BitVec 64) (hb : b ≠ 0#64) : ovQh 0#64 (amountU a) (amountU b) 64 64 = BitVec.ofInt 64 (a.toInt.natAbs / b.toInt.natAbs : Nat) := by
  rw [(over_small (amount_ne hb)).1]
  apply BitVec.eq_of_toNat_eq
  rw [BitVec.toNat_udiv, amountU_nat, amountU_nat]
  have h1 := amountU_nat (a := a)
  have h2 : (amountU a).toNat < 2 ^ 64 := (amountU a).isLt
  have h3 := Nat.div_le_self a.toInt.natAbs b.toInt.natAbs
  generalize a.toInt.natAbs / b.toInt.natAbs = X at *
  simp only [BitVec.toNat_ofInt]
  omega
theorem rem_abs (a b : BitVec 64) (hb : b ≠ 0#64) : ovR 0#64 (amountU a) (amountU b) 128 = BitVec.ofInt 64 (a.toInt.natAbs % b.toInt.natAbs : Nat) := by
  rw [(over_small (amount_ne hb)).2]
  apply BitVec.eq_of_toNat_eq
  rw [BitVec.toNat_umod, amountU_nat, amountU_nat]
  have h1 := amountU_nat (a := a)
  have h2 : (amountU a).toNat < 2 ^ 64 := (amountU a).isLt
  have h3 := Nat.mod_le a.toInt.natAbs b.toInt.natAbs
  generalize a.toInt.natAbs % b.toInt.natAbs = X at *
  simp only [BitVec.toNat_ofInt]
  omega
theorem ofInt_sub' (x y : Int) : BitVec.ofInt 64 (x - y) = BitVec.ofInt 64 x - BitVec.ofInt 64 y := by
  rw [Int.sub_eq_add_neg, BitVec.ofInt_add, BitVec.ofInt_neg, BitVec.sub_eq_add_neg]
theorem divS_ref (a b : BitVec 64) : divS a b = refDivU a b false := by
  by_cases h : b = 0#64
  · unfold divS refDivU; rw [if_pos h, if_pos h]
  · rw [divS_int a b h, tdiv_abs]
    simp only [refDivU, h, if_false, Bool.false_eq_true, quo_abs a b h, below_neg]
    by_cases h2 : decide (a.toInt < 0) = decide (b.toInt < 0)
    · rw [if_pos h2, if_pos h2]
    · rw [if_neg h2, if_neg h2, BitVec.ofInt_neg, BitVec.zero_sub]
theorem tmod_abs (a b : Int) : a.tmod b = if a < 0 then -((a.natAbs % b.natAbs : Nat) : Int) else ((a.natAbs % b.natAbs : Nat) : Int) := by
  rw [Int.tmod_def, tdiv_abs]
  have hd := Nat.div_add_mod a.natAbs b.natAbs
  have hd : ((b.natAbs * (a.natAbs / b.natAbs) : Nat) : Int) + ((a.natAbs % b.natAbs : Nat) : Int) = (a.natAbs : Int) := by omega
  rw [Int.natCast_mul] at hd
  generalize ((a.natAbs / b.natAbs : Nat) : Int) = q at *
  generalize ((a.natAbs % b.natAbs : Nat) : Int) = r at *
  rcases (by omega : a < 0 ∨ 0 ≤ a) with ha | ha <;> rcases (by omega : b < 0 ∨ 0 ≤ b) with hb | hb
  · have e2 : (b.natAbs : Int) = -b := by omega
    rw [e2, Int.neg_mul] at hd
    rw [if_pos (by simp [ha, hb]), if_pos ha]; omega
  · have e2 : (b.natAbs : Int) = b := by omega
    rw [e2] at hd
    rw [if_neg (by simp [ha]; omega), if_pos ha, Int.mul_neg]; omega
  · have e2 : (b.natAbs : Int) = -b := by omega
    rw [e2, Int.neg_mul] at hd
    rw [if_neg (by simp [hb]; omega), if_neg (by omega), Int.mul_neg]; omega
  · have e2 : (b.natAbs : Int) = b := by omega
    rw [e2] at hd
    rw [if_pos (by simp; omega), if_neg (by omega)]; omega
theorem remS_ref (a b : BitVec 64) : a - b * divS a b = refRemU a b false := by
  by_cases h : b = 0#64
  · unfold refRemU; rw [if_pos h, h]; simp
  · have e : a - b * divS a b = BitVec.ofInt 64 (a.toInt.tmod b.toInt) := by
      rw [divS_int a b h, Int.tmod_def, ofInt_sub', BitVec.ofInt_mul, BitVec.ofInt_toInt, BitVec.ofInt_toInt]
    rw [e, tmod_abs]
    simp only [refRemU, h, if_false, Bool.false_eq_true, rem_abs a b h, below_neg, decide_eq_true_eq]
    by_cases h2 : a.toInt < 0
    · rw [if_pos h2, if_pos h2, BitVec.ofInt_neg, BitVec.zero_sub]
    · rw [if_neg h2, if_neg h2]

end
end Go.Proofs.YtflcjnekmjdckaaGreat
