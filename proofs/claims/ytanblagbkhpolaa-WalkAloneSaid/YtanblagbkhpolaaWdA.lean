/- Layer 2: wide numbers: contracts -/
import Derived.Test.YtanblagbkhpolaaTy
import Derived.Test.YtanblagbkhpolaaBit
namespace Go.Proofs.Ytanblagbkhpolaa
open Go.Am
set_option linter.unusedSimpArgs false
set_option linter.unusedVariables false
noncomputable section

/-! ## XWideA -/

def timesLo (a b : BitVec 64) : BitVec 64 := ((a &&& 4294967295#64) * (b >>> 32) + ((a >>> 32) * (b &&& 4294967295#64) + ((a &&& 4294967295#64) * (b &&& 4294967295#64)) >>> 32 &&& 4294967295#64)) <<< 32 ||| (a &&& 4294967295#64) * (b &&& 4294967295#64) &&& 4294967295#64
def timesHi (a b : BitVec 64) : BitVec 64 :=
  (a >>> 32) * (b >>> 32) + ((a >>> 32) * (b &&& 4294967295#64) + ((a &&& 4294967295#64) * (b &&& 4294967295#64)) >>> 32) >>> 32 +
  ((a &&& 4294967295#64) * (b >>> 32) + ((a >>> 32) * (b &&& 4294967295#64) + ((a &&& 4294967295#64) * (b &&& 4294967295#64)) >>> 32 &&& 4294967295#64)) >>> 32



def divS (a b : BitVec 64) : BitVec 64 := if b = 0#64 then 18446744073709551615#64 else if b = 18446744073709551615#64 then -a else BitVec.ofInt 64 (w64 (a.toInt.tdiv b.toInt))

def divU (a b : BitVec 64) : BitVec 64 := if b = 0#64 then 18446744073709551615#64 else a / b


/-! ## XWideB -/
def belowU (a : BitVec 64) : Bool := decide (bitU a 63 = 1#64)

def amountU (a : BitVec 64) : BitVec 64 := if belowU a = true then 0#64 - a else a

/-- the bit of two words that the division takes behind k ones -/
def ovBit (hi lo : BitVec 64) (k : Nat) : BitVec 64 := if (63 : Int) < 127 - k then bitU hi (127 - k - 64) else bitU lo (127 - k)
/-- what is left behind k bits -/
def ovR (hi lo b : BitVec 64) : Nat → BitVec 64
  | 0 => 0#64
  | k + 1 =>
    if (9223372036854775807#64 < ovR hi lo b k ∨ 2#64 * ovR hi lo b k + ovBit hi lo k < 2#64 * ovR hi lo b k) ∨ b ≤ 2#64 * ovR hi lo b k + ovBit hi lo k then 2#64 * ovR hi lo b k + ovBit hi lo k - b
    else 2#64 * ovR hi lo b k + ovBit hi lo k
def ovQ (hi lo b : BitVec 64) (k : Nat) : BitVec 64 :=
  if (9223372036854775807#64 < ovR hi lo b k ∨ 2#64 * ovR hi lo b k + ovBit hi lo k < 2#64 * ovR hi lo b k) ∨ b ≤ 2#64 * ovR hi lo b k + ovBit hi lo k then 1#64 else 0#64
def ovL (hi lo b : BitVec 64) (k : Nat) : List Sc := (List.range k).map fun j => .u (ovQ hi lo b j)
def ovQh (hi lo b : BitVec 64) (at' : Nat) : Nat → BitVec 64
  | 0 => 0#64
  | k + 1 => 2#64 * ovQh hi lo b at' k + ovQ hi lo b (at' + k)
theorem ovL_len {hi lo b : BitVec 64} {k : Nat} : (ovL hi lo b k).length = k := by simp [ovL]
theorem ovL_succ {hi lo b : BitVec 64} {k : Nat} : ovL hi lo b (k + 1) = ovL hi lo b k ++ [.u (ovQ hi lo b k)] := by simp [ovL, List.range_succ]
theorem ovL_get {hi lo b : BitVec 64} {k i : Nat} (h : i < k) : (ovL hi lo b k)[i]? = some (.u (ovQ hi lo b i)) := by simp [ovL, h]


/-! ## XWideC -/
def refDivU (a b : BitVec 64) (pl : Bool) : BitVec 64 :=
  if b = 0#64 then 18446744073709551615#64 else
  if pl = true then ovQh 0#64 a b 64 64 else
  if belowU a = belowU b then ovQh 0#64 (amountU a) (amountU b) 64 64 else 0#64 - ovQh 0#64 (amountU a) (amountU b) 64 64
def refRemU (a b : BitVec 64) (pl : Bool) : BitVec 64 :=
  if b = 0#64 then a else
  if pl = true then ovR 0#64 a b 128 else
  if belowU a = true then 0#64 - ovR 0#64 (amountU a) (amountU b) 128 else ovR 0#64 (amountU a) (amountU b) 128



theorem live_times : timesHi 9223372036854775808#64 6#64 = 3#64 ∧ timesLo 9223372036854775808#64 6#64 = 0#64 ∧ timesHi 18446744073709551615#64 18446744073709551615#64 = 18446744073709551614#64 ∧ divS 18446744073709551609#64 2#64 = 18446744073709551613#64 := by decide

/-! ## XWideM -/
theorem bitU_nat {w : BitVec 64} {i : Nat} (h : i ≤ 63) : (bitU w i).toNat = w.toNat / 2 ^ i % 2 := by
  unfold bitU
  rw [if_pos (by omega)]
  simp only [Int.toNat_natCast, BitVec.getLsbD, Nat.testBit_eq_decide_div_mod_eq]
  have h2 : w.toNat / 2 ^ i % 2 < 2 := Nat.mod_lt _ (by omega)
  by_cases hb : w.toNat / 2 ^ i % 2 = 1
  · simp [hb]
  · have h0 : w.toNat / 2 ^ i % 2 = 0 := by omega
    simp [h0]

theorem ovBit_nat {hi lo : BitVec 64} {k : Nat} (hk : k < 128) : (ovBit hi lo k).toNat = (hi.toNat * 2 ^ 64 + lo.toNat) / 2 ^ (127 - k) % 2 := by
  have hl : lo.toNat < 2 ^ 64 := lo.isLt
  unfold ovBit
  split
  · rename_i h
    have e : (127 - (k : Int) - 64) = ((63 - k : Nat) : Int) := by omega
    rw [e, bitU_nat (by omega)]
    have e2 : 127 - k = 64 + (63 - k) := by omega
    rw [e2, Nat.pow_add, ← Nat.div_div_eq_div_mul]
    have e3 : (hi.toNat * 2 ^ 64 + lo.toNat) / 2 ^ 64 = hi.toNat := by omega
    rw [e3]
  · rename_i h
    have e : (127 - (k : Int)) = ((127 - k : Nat) : Int) := by omega
    rw [e, bitU_nat (by omega)]
    have hj : 127 - k ≤ 63 := by omega
    generalize 127 - k = j at hj
    have e2 : 2 ^ 64 = 2 ^ (63 - j) * 2 * 2 ^ j := by rw [← Nat.pow_succ, ← Nat.pow_add]; congr 1; omega
    rw [e2, ← Nat.mul_assoc, Nat.add_comm, Nat.add_mul_div_right _ _ (Nat.two_pow_pos j), ← Nat.mul_assoc, Nat.add_mul_mod_self_right]

theorem pow_half {N k : Nat} (hk : k < 128) : N / 2 ^ (128 - k) = N / 2 ^ (127 - k) / 2 := by
  have : 128 - k = (127 - k) + 1 := by omega
  rw [this, Nat.pow_succ, Nat.div_div_eq_div_mul]

/-- one bit more -/
theorem ov_step {M M' r b bit : Nat} (hb : 0 < b) (hM : M' = 2 * M + bit) (hr : r = M % b) : (2 * r + bit < b → M' % b = 2 * r + bit ∧ M' / b = 2 * (M / b)) ∧ (b ≤ 2 * r + bit → bit < 2 → M' % b = 2 * r + bit - b ∧ M' / b = 2 * (M / b) + 1) := by
  have h1 : M = b * (M / b) + M % b := (Nat.div_add_mod M b).symm
  have h2 : M % b < b := Nat.mod_lt _ hb
  have e : M' = 2 * r + bit + b * (2 * (M / b)) := by
    have : b * (2 * (M / b)) = 2 * (b * (M / b)) := by rw [Nat.mul_left_comm]
    omega
  constructor
  · intro h
    rw [e, Nat.add_mul_mod_self_left, Nat.add_mul_div_left _ _ hb, Nat.mod_eq_of_lt h, Nat.div_eq_of_lt h]
    omega
  · intro h hbit
    have h3 : 2 * r + bit - b < b := by omega
    have e' : M' = (2 * r + bit - b) + b * (2 * (M / b) + 1) := by rw [Nat.mul_add, Nat.mul_one]; omega
    rw [e', Nat.add_mul_mod_self_left, Nat.add_mul_div_left _ _ hb, Nat.mod_eq_of_lt h3, Nat.div_eq_of_lt h3]
    omega

theorem ov_inv {hi lo b : BitVec 64} (hb : b ≠ 0#64) (k : Nat) (hk : k ≤ 128) :
    (ovR hi lo b k).toNat = (hi.toNat * 2 ^ 64 + lo.toNat) / 2 ^ (128 - k) % b.toNat ∧
    (k < 128 → (ovQ hi lo b k).toNat + 2 * ((hi.toNat * 2 ^ 64 + lo.toNat) / 2 ^ (128 - k) / b.toNat) = (hi.toNat * 2 ^ 64 + lo.toNat) / 2 ^ (127 - k) / b.toNat) ∧ (ovQ hi lo b k).toNat < 2 := by
  have hl : lo.toNat < 2 ^ 64 := lo.isLt
  have hh : hi.toNat < 2 ^ 64 := hi.isLt
  have hb0 : 0 < b.toNat := by
    rcases Nat.eq_zero_or_pos b.toNat with h | h
    · exact absurd (BitVec.eq_of_toNat_eq (by simpa using h)) hb
    · exact h
  have hq2 : ∀ k, (ovQ hi lo b k).toNat < 2 := by
    intro k; unfold ovQ; split <;> simp
  generalize hN : hi.toNat * 2 ^ 64 + lo.toNat = N
  have key : ∀ k, k < 128 → (ovR hi lo b k).toNat = N / 2 ^ (128 - k) % b.toNat →
      (ovR hi lo b (k + 1)).toNat = N / 2 ^ (127 - k) % b.toNat ∧ (ovQ hi lo b k).toNat + 2 * (N / 2 ^ (128 - k) / b.toNat) = N / 2 ^ (127 - k) / b.toNat := by
    intro k hk hr
    have hbit : (ovBit hi lo k).toNat = N / 2 ^ (127 - k) % 2 := by rw [← hN]; exact ovBit_nat hk
    have hM : N / 2 ^ (127 - k) = 2 * (N / 2 ^ (128 - k)) + (ovBit hi lo k).toNat := by rw [hbit, pow_half hk]; omega
    have hst := ov_step hb0 hM hr
    have hb2 : (ovBit hi lo k).toNat < 2 := by rw [hbit]; exact Nat.mod_lt _ (by omega)
    have hrb : (ovR hi lo b k).toNat < b.toNat := by rw [hr]; exact Nat.mod_lt _ hb0
    have hbl : b.toNat < 2 ^ 64 := b.isLt
    simp only [ovR, ovQ]
    generalize ovR hi lo b k = r at *
    generalize ovBit hi lo k = B at *
    have e1 : (2#64 * r + B).toNat = (2 * r.toNat + B.toNat) % 2 ^ 64 := by simp [BitVec.toNat_add, BitVec.toNat_mul]
    have e2 : (2#64 * r).toNat = (2 * r.toNat) % 2 ^ 64 := by simp [BitVec.toNat_mul]
    have hc : ((9223372036854775807#64 < r ∨ 2#64 * r + B < 2#64 * r) ∨ b ≤ 2#64 * r + B) ↔ b.toNat ≤ 2 * r.toNat + B.toNat := by
      simp only [BitVec.lt_def, BitVec.le_def, e1, e2]
      simp only [BitVec.toNat_ofNat]
      omega
    by_cases h : b.toNat ≤ 2 * r.toNat + B.toNat
    · obtain ⟨h1, h2⟩ := hst.2 h hb2
      rw [if_pos (hc.2 h), if_pos (hc.2 h), h1, h2]
      refine ⟨?_, by simp; omega⟩
      rw [BitVec.toNat_sub, e1]
      omega
    · obtain ⟨h1, h2⟩ := hst.1 (by omega)
      rw [if_neg (fun h' => h (hc.1 h')), if_neg (fun h' => h (hc.1 h')), h1, h2]
      refine ⟨?_, by simp⟩
      rw [e1]
      omega
  have inv : ∀ k, k ≤ 128 → (ovR hi lo b k).toNat = N / 2 ^ (128 - k) % b.toNat := by
    intro k
    induction k with
    | zero => intro _; have : N / 2 ^ 128 = 0 := by omega
              simp [ovR, this]
    | succ k ih =>
      intro hk
      have := (key k (by omega) (ih (by omega))).1
      have e : 127 - k = 128 - (k + 1) := by omega
      rw [this, e]
  exact ⟨inv k hk, fun h => (key k h (inv k hk)).2, hq2 k⟩

theorem ovQh_nat {hi lo b : BitVec 64} (hb : b ≠ 0#64) (a k : Nat) (hk : k ≤ 64) (ha : a + k ≤ 128) :
    (hi.toNat * 2 ^ 64 + lo.toNat) / 2 ^ (128 - (a + k)) / b.toNat = (hi.toNat * 2 ^ 64 + lo.toNat) / 2 ^ (128 - a) / b.toNat * 2 ^ k + (ovQh hi lo b a k).toNat ∧ (ovQh hi lo b a k).toNat < 2 ^ k := by
  induction k with
  | zero => simp [ovQh]
  | succ k ih =>
    obtain ⟨h1, h2⟩ := ih (by omega) (by omega)
    obtain ⟨_, h3, h4⟩ := ov_inv (hi := hi) (lo := lo) hb (a + k) (by omega)
    have h3 := h3 (by omega)
    have hp : 2 ^ k * 2 ≤ 2 ^ 64 := by rw [← Nat.pow_succ]; exact Nat.pow_le_pow_right (by omega) (by omega)
    have e : (ovQh hi lo b a (k + 1)).toNat = 2 * (ovQh hi lo b a k).toNat + (ovQ hi lo b (a + k)).toNat := by
      simp only [ovQh, BitVec.toNat_add, BitVec.toNat_mul, BitVec.toNat_ofNat]
      omega
    have e2 : 128 - (a + (k + 1)) = 127 - (a + k) := by omega
    rw [e, e2, ← h3, h1]
    have hp2 : 2 ^ (k + 1) = 2 ^ k * 2 := Nat.pow_succ ..
    constructor
    · generalize (hi.toNat * 2 ^ 64 + lo.toNat) / 2 ^ (128 - a) / b.toNat = X
      have : X * 2 ^ (k + 1) = X * 2 ^ k * 2 := by rw [hp2, Nat.mul_assoc]
      omega
    · omega

/-- the reference's division of two words -/
theorem over_nat {hi lo b : BitVec 64} (hb : b ≠ 0#64) :
    (ovQh hi lo b 0 64).toNat = hi.toNat / b.toNat ∧ (hi.toNat * 2 ^ 64 + lo.toNat) / b.toNat = (ovQh hi lo b 0 64).toNat * 2 ^ 64 + (ovQh hi lo b 64 64).toNat ∧ (ovR hi lo b 128).toNat = (hi.toNat * 2 ^ 64 + lo.toNat) % b.toNat := by
  have hl : lo.toNat < 2 ^ 64 := lo.isLt
  have hh : hi.toNat < 2 ^ 64 := hi.isLt
  obtain ⟨h1, _⟩ := ovQh_nat (hi := hi) (lo := lo) hb 0 64 (by omega) (by omega)
  obtain ⟨h2, _⟩ := ovQh_nat (hi := hi) (lo := lo) hb 64 64 (by omega) (by omega)
  obtain ⟨h3, _⟩ := ov_inv (hi := hi) (lo := lo) hb 128 (by omega)
  have e0 : (hi.toNat * 2 ^ 64 + lo.toNat) / 2 ^ 128 = 0 := by omega
  have e1 : (hi.toNat * 2 ^ 64 + lo.toNat) / 2 ^ 64 = hi.toNat := by omega
  simp only [Nat.reduceAdd, Nat.reduceSub, e0, e1, Nat.zero_div, Nat.zero_mul, Nat.zero_add, Nat.pow_zero, Nat.div_one] at h1 h2 h3
  exact ⟨h1.symm, h2.trans (by rw [h1]), h3⟩

theorem over_small {a b : BitVec 64} (hb : b ≠ 0#64) : ovQh 0#64 a b 64 64 = a / b ∧ ovR 0#64 a b 128 = a % b := by
  obtain ⟨h1, h2, h3⟩ := over_nat (hi := 0#64) (lo := a) hb
  simp at h1 h2 h3
  rw [h1] at h2
  exact ⟨BitVec.eq_of_toNat_eq (by simp; omega), BitVec.eq_of_toNat_eq (by simp; omega)⟩

theorem belowU_msb {a : BitVec 64} : belowU a = a.msb := by
  have : a.msb = a.getLsbD 63 := by simp [BitVec.msb_eq_getLsbD_last]
  rw [this]
  unfold belowU bitU
  rw [if_pos (by omega)]
  show decide ((if a.getLsbD 63 = true then 1#64 else 0#64) = 1#64) = a.getLsbD 63
  cases a.getLsbD 63 <;> rfl
theorem amountU_nat {a : BitVec 64} : (amountU a).toNat = a.toInt.natAbs := by
  unfold amountU
  rw [belowU_msb, BitVec.toInt_eq_msb_cond]
  have hl : a.toNat < 2 ^ 64 := a.isLt
  split
  · rename_i h
    have := BitVec.msb_eq_true_iff_two_mul_ge.1 h
    simp only [BitVec.toNat_sub, BitVec.toNat_ofNat]
    omega
  · rename_i h
    simp
theorem ofInt_w64 {x : Int} : BitVec.ofInt 64 (w64 x) = BitVec.ofInt 64 x := by
  apply BitVec.eq_of_toNat_eq
  simp only [BitVec.toNat_ofInt]
  congr 1
  unfold w64; simp only [IntKind.wrap, IntKind.bits, IntKind.signed, Bool.true_and]
  split <;> simp at * <;> omega
theorem tdiv_abs (a b : Int) : a.tdiv b = if decide (a < 0) = decide (b < 0) then ((a.natAbs / b.natAbs : Nat) : Int) else -((a.natAbs / b.natAbs : Nat) : Int) := by
  rcases (by omega : a < 0 ∨ 0 ≤ a) with ha | ha <;> rcases (by omega : b < 0 ∨ 0 ≤ b) with hb | hb
  · have e1 : a = -(a.natAbs : Int) := by omega
    have e2 : b = -(b.natAbs : Int) := by omega
    rw [if_pos (by simp [ha, hb])]
    generalize a.natAbs = x at *; generalize b.natAbs = y at *
    subst e1 e2
    rw [Int.neg_tdiv_neg, Int.ofNat_tdiv]
  · have e1 : a = -(a.natAbs : Int) := by omega
    have e2 : b = (b.natAbs : Int) := by omega
    rw [if_neg (by simp [ha]; omega)]
    generalize a.natAbs = x at *; generalize b.natAbs = y at *
    subst e1 e2
    rw [Int.neg_tdiv, Int.ofNat_tdiv]
  · have e1 : a = (a.natAbs : Int) := by omega
    have e2 : b = -(b.natAbs : Int) := by omega
    rw [if_neg (by simp [hb]; omega)]
    generalize a.natAbs = x at *; generalize b.natAbs = y at *
    subst e1 e2
    rw [Int.tdiv_neg, Int.ofNat_tdiv]
  · have e1 : a = (a.natAbs : Int) := by omega
    have e2 : b = (b.natAbs : Int) := by omega
    rw [if_pos (by simp; omega)]
    generalize a.natAbs = x at *; generalize b.natAbs = y at *
    subst e1 e2
    rw [Int.ofNat_tdiv]
theorem amount_ne {b : BitVec 64} (h : b ≠ 0#64) : amountU b ≠ 0#64 := by
  intro e
  have := amountU_nat (a := b)
  rw [e] at this
  exact h (BitVec.eq_of_toInt_eq (by simp at this; simp; omega))
theorem below_neg {a : BitVec 64} : belowU a = decide (a.toInt < 0) := by
  rw [belowU_msb, BitVec.msb_eq_toInt]
theorem divU_ref (a b : BitVec 64) : divU a b = refDivU a b true := by
  unfold divU refDivU
  split
  · rfl
  · rename_i h; rw [if_pos rfl, (over_small h).1]
theorem remU_ref (a b : BitVec 64) : a - b * divU a b = refRemU a b true := by
  unfold divU refRemU
  split
  · rename_i h; simp [h]
  · rename_i h
    rw [if_pos rfl, (over_small h).2]
    apply BitVec.eq_of_toNat_eq
    have hd := Nat.div_add_mod a.toNat b.toNat
    have hl : a.toNat < 2 ^ 64 := a.isLt
    simp only [BitVec.toNat_sub, BitVec.toNat_mul, BitVec.toNat_udiv, BitVec.toNat_umod]
    generalize b.toNat * (a.toNat / b.toNat) = X at *
    omega

/-- the quotient as a number with a sign -/
theorem divS_int (a b : BitVec 64) (hb : b ≠ 0#64) : divS a b = BitVec.ofInt 64 (a.toInt.tdiv b.toInt) := by
  unfold divS
  rw [if_neg hb]
  split
  · rename_i h
    subst h
    have : (18446744073709551615#64).toInt = -1 := by decide
    rw [this, Int.tdiv_neg, Int.tdiv_one, BitVec.ofInt_neg, BitVec.ofInt_toInt]
  · exact ofInt_w64
theorem quo_abs (a b : BitVec 64) (hb : b ≠ 0#64) : ovQh 0#64 (amountU a) (amountU b) 64 64 = BitVec.ofInt 64 (a.toInt.natAbs / b.toInt.natAbs : Nat) := by
  rw [(over_small (amount_ne hb)).1]
  apply BitVec.eq_of_toNat_eq
  rw [BitVec.toNat_udiv, amountU_nat, amountU_nat]
  have h1 := amountU_nat (a := a)
  have h2 : (amountU a).toNat < 2 ^ 64 := (amountU a).isLt
  have h3 := Nat.div_le_self a.toInt.natAbs b.toInt.natAbs
  generalize a.toInt.natAbs / b.toInt.natAbs = X at *
  simp only [BitVec.toNat_ofInt]
  omega
theorem rem_abs (a b : BitVec 64) (hb : b ≠ 0#64) : ovR 0#64 (amountU a) (amountU b) 128 = BitVec.ofInt 64 (a.toInt.natAbs % b.toInt.natAbs : Nat) := by
  rw [(over_small (amount_ne hb)).2]
  apply BitVec.eq_of_toNat_eq
  rw [BitVec.toNat_umod, amountU_nat, amountU_nat]
  have h1 := amountU_nat (a := a)
  have h2 : (amountU a).toNat < 2 ^ 64 := (amountU a).isLt
  have h3 := Nat.mod_le a.toInt.natAbs b.toInt.natAbs
  generalize a.toInt.natAbs % b.toInt.natAbs = X at *
  simp only [BitVec.toNat_ofInt]
  omega
theorem ofInt_sub' (x y : Int) : BitVec.ofInt 64 (x - y) = BitVec.ofInt 64 x - BitVec.ofInt 64 y := by
  rw [Int.sub_eq_add_neg, BitVec.ofInt_add, BitVec.ofInt_neg, BitVec.sub_eq_add_neg]
theorem divS_ref (a b : BitVec 64) : divS a b = refDivU a b false := by
  by_cases h : b = 0#64
  · unfold divS refDivU; rw [if_pos h, if_pos h]
  · rw [divS_int a b h, tdiv_abs]
    simp only [refDivU, h, if_false, Bool.false_eq_true, quo_abs a b h, below_neg]
    by_cases h2 : decide (a.toInt < 0) = decide (b.toInt < 0)
    · rw [if_pos h2, if_pos h2]
    · rw [if_neg h2, if_neg h2, BitVec.ofInt_neg, BitVec.zero_sub]
theorem tmod_abs (a b : Int) : a.tmod b = if a < 0 then -((a.natAbs % b.natAbs : Nat) : Int) else ((a.natAbs % b.natAbs : Nat) : Int) := by
  rw [Int.tmod_def, tdiv_abs]
  have hd := Nat.div_add_mod a.natAbs b.natAbs
  have hd : ((b.natAbs * (a.natAbs / b.natAbs) : Nat) : Int) + ((a.natAbs % b.natAbs : Nat) : Int) = (a.natAbs : Int) := by omega
  rw [Int.natCast_mul] at hd
  generalize ((a.natAbs / b.natAbs : Nat) : Int) = q at *
  generalize ((a.natAbs % b.natAbs : Nat) : Int) = r at *
  rcases (by omega : a < 0 ∨ 0 ≤ a) with ha | ha <;> rcases (by omega : b < 0 ∨ 0 ≤ b) with hb | hb
  · have e2 : (b.natAbs : Int) = -b := by omega
    rw [e2, Int.neg_mul] at hd
    rw [if_pos (by simp [ha, hb]), if_pos ha]; omega
  · have e2 : (b.natAbs : Int) = b := by omega
    rw [e2] at hd
    rw [if_neg (by simp [ha]; omega), if_pos ha, Int.mul_neg]; omega
  · have e2 : (b.natAbs : Int) = -b := by omega
    rw [e2, Int.neg_mul] at hd
    rw [if_neg (by simp [hb]; omega), if_neg (by omega), Int.mul_neg]; omega
  · have e2 : (b.natAbs : Int) = b := by omega
    rw [e2] at hd
    rw [if_pos (by simp; omega), if_neg (by omega)]; omega
theorem remS_ref (a b : BitVec 64) : a - b * divS a b = refRemU a b false := by
  by_cases h : b = 0#64
  · unfold refRemU; rw [if_pos h, h]; simp
  · have e : a - b * divS a b = BitVec.ofInt 64 (a.toInt.tmod b.toInt) := by
      rw [divS_int a b h, Int.tmod_def, ofInt_sub', BitVec.ofInt_mul, BitVec.ofInt_toInt, BitVec.ofInt_toInt]
    rw [e, tmod_abs]
    simp only [refRemU, h, if_false, Bool.false_eq_true, rem_abs a b h, below_neg, decide_eq_true_eq]
    by_cases h2 : a.toInt < 0
    · rw [if_pos h2, if_pos h2, BitVec.ofInt_neg, BitVec.zero_sub]
    · rw [if_neg h2, if_neg h2]

/-! ## XWideS -/
/-- what is left, and the quotient's word, behind k bits of a part -/
def tk (part b : BitVec 64) (s : BitVec 64 × BitVec 64) : Nat → BitVec 64 × BitVec 64
  | 0 => s
  | k + 1 =>
    if (tk part b s k).1 >>> 63 = 1#64 ∨ b ≤ ((tk part b s k).1 <<< 1 ||| (part >>> (63 - k) &&& 1#64)) then
      (((tk part b s k).1 <<< 1 ||| (part >>> (63 - k) &&& 1#64)) - b, (tk part b s k).2 <<< 1 ||| 1#64)
    else (((tk part b s k).1 <<< 1 ||| (part >>> (63 - k) &&& 1#64)), (tk part b s k).2 <<< 1)
def s_take (args : List AV) (H : AH) : Option (AV × AH) :=
  match args with
  | [.c (.u part), .c (.p i 0 0), .c (.p j 0 0)] =>
    match hg H i, hg H j with
    | .own [.u rest], .own [.u b] => if i = j then none else some (.c (.u (tk part b (rest, 0#64) 64).2), H.set i (.own [.u (tk part b (rest, 0#64) 64).1]))
    | _, _ => none
  | _ => none
theorem len_take (args : List AV) (H : AH) (v : AV) (H1 : AH) (h : s_take args H = some (v, H1)) : H.length ≤ H1.length := by
  unfold s_take at h
  split at h
  · split at h
    · split at h <;> simp at h
      rw [← h.2]; simp
    · simp at h
  · simp at h


def carryU (a b : BitVec 64) : BitVec 64 := if a + b < a then 1#64 else 0#64

/-! ## XWideT -/
def s_digits (args : List AV) (H : AH) : Option (AV × AH) :=
  match args with
  | [.c (.u w)] => some (.c (.sl H.length 0 4 4), H ++ [.vec 1 [.u (w % 65536#64), .u (w / 65536#64 % 65536#64), .u (w / 4294967296#64 % 65536#64), .u (w / 281474976710656#64)]])
  | _ => none
theorem s_digits_eq {w : BitVec 64} {H : AH} : s_digits [.c (.u w)] H = some (.c (.sl H.length 0 4 4), H ++ [.vec 1 [.u (w % 65536#64), .u (w / 65536#64 % 65536#64), .u (w / 4294967296#64 % 65536#64), .u (w / 281474976710656#64)]]) := rfl
theorem len_digits (args : List AV) (H : AH) (v : AV) (H1 : AH) (h : s_digits args H = some (v, H1)) : H.length ≤ H1.length := by
  unfold s_digits at h
  split at h <;> simp at h
  rw [← h.2]; simp

/-- a word out of cells -/
def uOf : Sc → BitVec 64
  | .u x => x
  | _ => 0#64
def isU : Sc → Bool
  | .u _ => true
  | _ => false
def wv (l : List Sc) (a : Nat) : Nat → BitVec 64
  | 0 => 0#64
  | k + 1 => wv l a k * 65536#64 + uOf (l.getD (a + (3 - k)) .any)
def s_word (args : List AV) (H : AH) : Option AV :=
  match args with
  | [.c (.sl id 0 v n), .c (.i a)] => if 0 ≤ a ∧ a ≤ 1000 ∧ a + 4 ≤ n ∧ n ≤ (hg H id).cells.length ∧ v = (hg H id).row ∧ (hg H id).cells.all isU = true then some (.c (.u (wv (hg H id).cells a.toNat 4))) else none
  | _ => none
theorem s_word_eq {id v n : Nat} {a : Int} {H : AH} : s_word [.c (.sl id 0 v n), .c (.i a)] H = if 0 ≤ a ∧ a ≤ 1000 ∧ a + 4 ≤ n ∧ n ≤ (hg H id).cells.length ∧ v = (hg H id).row ∧ (hg H id).cells.all isU = true then some (.c (.u (wv (hg H id).cells a.toNat 4))) else none := rfl
theorem getU {l : List Sc} {i : Nat} (h : l.all isU = true) (hi : i < l.length) : l.getD i .any = .u (uOf (l.getD i .any)) := by
  have e : l.getD i .any = l[i] := by simp [List.getD_eq_getElem?_getD, hi]
  rw [e]
  have := List.all_eq_true.1 h l[i] (List.getElem_mem hi)
  cases hl : l[i] <;> rw [hl] at this <;> simp [isU] at this; rfl

/-! ## XWideH -/

def sizeU (a : BitVec 64) : BitVec 64 := if a.toInt < 0 then -a else a
def negHi (h l : BitVec 64) : BitVec 64 := ~~~h + 0#64 + carryU (~~~l) 1#64
def highMixedU (a b : BitVec 64) : BitVec 64 := if a.toInt < 0 then negHi (timesHi (sizeU a) b) (timesLo (sizeU a) b) else timesHi (sizeU a) b
def highU (a b : BitVec 64) : BitVec 64 := if decide (a.toInt < 0) = decide (b.toInt < 0) then timesHi (sizeU a) (sizeU b) else negHi (timesHi (sizeU a) (sizeU b)) (timesLo (sizeU a) (sizeU b))

/-! ## XWideU -/
theorem s_take_eq {part : BitVec 64} {i j : Nat} {H : AH} : s_take [.c (.u part), .c (.p i 0 0), .c (.p j 0 0)] H =
    match hg H i, hg H j with
    | .own [.u rest], .own [.u b] => if i = j then none else some (.c (.u (tk part b (rest, 0#64) 64).2), H.set i (.own [.u (tk part b (rest, 0#64) 64).1]))
    | _, _ => none := rfl
def oH (hi b : BitVec 64) : BitVec 64 := if b = 0#64 then 0#64 else (tk hi b (0#64, 0#64) 64).2
def oL (hi lo b : BitVec 64) : BitVec 64 := if b = 0#64 then 0#64 else (tk lo b ((tk hi b (0#64, 0#64) 64).1, 0#64) 64).2
def oR (hi lo b : BitVec 64) : BitVec 64 := if b = 0#64 then 0#64 else (tk lo b ((tk hi b (0#64, 0#64) 64).1, 0#64) 64).1

theorem or_bit (r p : BitVec 64) : (r <<< 1 ||| (p &&& 1#64)).toNat = (2 * r.toNat) % 2 ^ 64 + p.toNat % 2 := by
  have h : (r <<< 1) &&& (p &&& 1#64) = 0#64 := by
    apply BitVec.eq_of_getLsbD_eq
    intro i hi
    simp only [BitVec.getLsbD_and, BitVec.getLsbD_shiftLeft, BitVec.getLsbD_one, BitVec.getLsbD_zero]
    by_cases h : i = 0
    · subst h; simp
    · simp [h]
  rw [← BitVec.add_eq_or_of_and_eq_zero _ _ h, BitVec.toNat_add, BitVec.toNat_shiftLeft, BitVec.toNat_and]
  simp only [BitVec.toNat_ofNat, Nat.shiftLeft_eq]
  have e : p.toNat &&& 1 % 2 ^ 64 = p.toNat % 2 := by rw [Nat.mod_eq_of_lt (by omega)]; exact Nat.and_one_is_mod _
  rw [e]; omega

theorem tk_inv {part b r0 : BitVec 64} (hb : b ≠ 0#64) (hr : r0.toNat < b.toNat) (k : Nat) (hk : k ≤ 64) :
    (tk part b (r0, 0#64) k).1.toNat = (r0.toNat * 2 ^ k + part.toNat / 2 ^ (64 - k)) % b.toNat ∧ (tk part b (r0, 0#64) k).2.toNat = (r0.toNat * 2 ^ k + part.toNat / 2 ^ (64 - k)) / b.toNat ∧ (tk part b (r0, 0#64) k).2.toNat < 2 ^ k := by
  have hp : part.toNat < 2 ^ 64 := part.isLt
  have hb0 : 0 < b.toNat := by omega
  induction k with
  | zero =>
    have : part.toNat / 2 ^ 64 = 0 := by omega
    simp [tk, this, Nat.mod_eq_of_lt hr, Nat.div_eq_of_lt hr]
  | succ k ih =>
    obtain ⟨h1, h2, h3⟩ := ih (by omega)
    have hM : r0.toNat * 2 ^ (k + 1) + part.toNat / 2 ^ (64 - (k + 1)) = 2 * (r0.toNat * 2 ^ k + part.toNat / 2 ^ (64 - k)) + part.toNat / 2 ^ (63 - k) % 2 := by
      have e1 : 64 - (k + 1) = 63 - k := by omega
      have e2 : 64 - k = (63 - k) + 1 := by omega
      rw [e1, e2, Nat.pow_succ, Nat.pow_succ, ← Nat.div_div_eq_div_mul, ← Nat.mul_assoc]
      omega
    have hst := ov_step hb0 hM h1
    have hbit : part.toNat / 2 ^ (63 - k) % 2 < 2 := Nat.mod_lt _ (by omega)
    have hrb : (tk part b (r0, 0#64) k).1.toNat < b.toNat := by rw [h1]; exact Nat.mod_lt _ hb0
    have hbl : b.toNat < 2 ^ 64 := b.isLt
    have hpk : 2 ^ k * 2 ≤ 2 ^ 64 := by rw [← Nat.pow_succ]; exact Nat.pow_le_pow_right (by omega) hk
    simp only [tk]
    generalize tk part b (r0, 0#64) k = T at *
    have e1 : (T.1 <<< 1 ||| (part >>> (63 - k) &&& 1#64)).toNat = (2 * T.1.toNat) % 2 ^ 64 + part.toNat / 2 ^ (63 - k) % 2 := by
      rw [or_bit, BitVec.toNat_ushiftRight, Nat.shiftRight_eq_div_pow]
    have e2 : T.1 >>> 63 = 1#64 ↔ 2 ^ 63 ≤ T.1.toNat := by
      have hT := T.1.isLt
      constructor
      · intro h
        have := congrArg BitVec.toNat h
        simp [Nat.shiftRight_eq_div_pow] at this
        omega
      · intro h
        apply BitVec.eq_of_toNat_eq
        simp [Nat.shiftRight_eq_div_pow]
        omega
    have e3 : (T.2 <<< 1).toNat = 2 * T.2.toNat := by
      rw [BitVec.toNat_shiftLeft, Nat.shiftLeft_eq, Nat.mod_eq_of_lt (by omega)]; omega
    have e4 : (T.2 <<< 1 ||| 1#64).toNat = 2 * T.2.toNat + 1 := by
      have := or_bit T.2 1#64
      simp only [BitVec.and_self] at this
      rw [this]; simp; omega
    generalize part.toNat / 2 ^ (63 - k) % 2 = bit at *
    have hc : (T.1 >>> 63 = 1#64 ∨ b ≤ (T.1 <<< 1 ||| (part >>> (63 - k) &&& 1#64))) ↔ b.toNat ≤ 2 * T.1.toNat + bit := by
      rw [e2, BitVec.le_def, e1]; omega
    rw [hM] at hst ⊢
    have hpow : 2 ^ (k + 1) = 2 ^ k * 2 := Nat.pow_succ ..
    by_cases h : b.toNat ≤ 2 * T.1.toNat + bit
    · rw [if_pos (hc.2 h)]
      obtain ⟨g1, g2⟩ := hst.2 h hbit
      rw [g1, g2]
      refine ⟨?_, by rw [e4]; omega, by rw [e4]; omega⟩
      rw [BitVec.toNat_sub, e1]; omega
    · rw [if_neg (fun h' => h (hc.1 h'))]
      obtain ⟨g1, g2⟩ := hst.1 (by omega)
      rw [g1, g2]
      exact ⟨by rw [e1]; omega, by rw [e3]; omega, by rw [e3]; omega⟩

/-- quotients of wide numbers are the reference's -/
theorem over_ref {hi lo b : BitVec 64} (hb : b ≠ 0#64) : oH hi b = ovQh hi lo b 0 64 ∧ oL hi lo b = ovQh hi lo b 64 64 ∧ oR hi lo b = ovR hi lo b 128 := by
  obtain ⟨o1, o2, o3⟩ := over_nat (hi := hi) (lo := lo) hb
  have hb0 : 0 < b.toNat := by
    rcases Nat.eq_zero_or_pos b.toNat with h | h
    · exact absurd (BitVec.eq_of_toNat_eq (by simpa using h)) hb
    · exact h
  obtain ⟨a1, a2, _⟩ := tk_inv (part := hi) (r0 := 0#64) hb (by simpa using hb0) 64 (by omega)
  simp at a1 a2
  obtain ⟨c1, c2, _⟩ := tk_inv (part := lo) (r0 := (tk hi b (0#64, 0#64) 64).1) hb (by rw [a1]; exact Nat.mod_lt _ hb0) 64 (by omega)
  rw [a1] at c1 c2
  simp only [Nat.sub_self, Nat.pow_zero, Nat.div_one] at c1 c2
  have hd : hi.toNat * 2 ^ 64 + lo.toNat = (hi.toNat % b.toNat * 2 ^ 64 + lo.toNat) + b.toNat * (hi.toNat / b.toNat * 2 ^ 64) := by
    have := Nat.div_add_mod hi.toNat b.toNat
    rw [← Nat.mul_assoc]
    generalize b.toNat * (hi.toNat / b.toNat) = X at *
    omega
  rw [hd, Nat.add_mul_div_left _ _ hb0] at o2
  rw [hd, Nat.add_mul_mod_self_left] at o3
  unfold oH oL oR
  rw [if_neg hb, if_neg hb, if_neg hb]
  exact ⟨BitVec.eq_of_toNat_eq (by omega), BitVec.eq_of_toNat_eq (by omega), BitVec.eq_of_toNat_eq (by omega)⟩
end
end Go.Proofs.Ytanblagbkhpolaa
