/- Contracts of layer 2: quotients of wide numbers; and plain laws of them. -/
import Derived.Test.YtflcjnekmjdckaaGreatWideH
namespace Go.Proofs.YtflcjnekmjdckaaGreat
open Go.Am
set_option linter.unusedSimpArgs false
set_option linter.unusedVariables false
noncomputable section

theorem s_take_eq {part : BitVec 64} {i j : Nat} {H : AH} : s_take [.c (.u part), .c (.p i 0 0), .c (.p j 0 0)] H =
    match hg H i, hg H j with
    | .own [.u rest], .own [.u b] => if i = j then none else some (.c (.u (tk part b (rest, 0#64) 64).2), H.set i (.own [.u (tk part b (rest, 0#64) 64).1]))
    | _, _ => none := rfl
def oH (hi b : BitVec 64) : BitVec 64 := if b = 0#64 then 0#64 else (tk hi b (0#64, 0#64) 64).2
def oL (hi lo b : BitVec 64) : BitVec 64 := if b = 0#64 then 0#64 else (tk lo b ((tk hi b (0#64, 0#64) 64).1, 0#64) 64).2
def oR (hi lo b : BitVec 64) : BitVec 64 := if b = 0#64 then 0#64 else (tk lo b ((tk hi b (0#64, 0#64) 64).1, 0#64) 64).1

theorem or_bit (r p : BitVec 64) : (r <<< 1 ||| (p &&& 1#64)).toNat = (2 * r.toNat) % 2 ^ 64 + p.toNat % 2 := by
  have h : (r <<< 1) &&& (p &&& 1#64) = 0#64 := by
    apply BitVec.eq_of_getLsbD_eq
    intro i hi
    simp only [BitVec.getLsbD_and, BitVec.getLsbD_shiftLeft, BitVec.getLsbD_one, BitVec.getLsbD_zero]
    by_cases h : i = 0
    · subst h; simp
    · simp [h]
  rw [← BitVec.add_eq_or_of_and_eq_zero _ _ h, BitVec.toNat_add, BitVec.toNat_shiftLeft, BitVec.toNat_and]
  simp only [BitVec.toNat_ofNat, Nat.shiftLeft_eq]
  have e : p.toNat &&& 1 % 2 ^ 64 = p.toNat % 2 := by rw [Nat.mod_eq_of_lt (by omega)]; exact Nat.and_one_is_mod _
  rw [e]; omega

theorem tk_inv {part b r0 : BitVec 64} (hb : b ≠ 0#64) (hr : r0.toNat < b.toNat) (k : Nat) (hk : k ≤ 64) :
    (tk part b (r0, 0#64) k).1.toNat = (r0.toNat * 2 ^ k + part.toNat / 2 ^ (64 - k)) % b.toNat ∧ (tk part b (r0, 0#64) k).2.toNat = (r0.toNat * 2 ^ k + part.toNat / 2 ^ (64 - k)) / b.toNat ∧ (tk part b (r0, 0#64) k).2.toNat < 2 ^ k := by
  have hp : part.toNat < 2 ^ 64 := part.isLt
  have hb0 : 0 < b.toNat := by omega
  induction k with
  | zero =>
    have : part.toNat / 2 ^ 64 = 0 := by omega
    simp [tk, this, Nat.mod_eq_of_lt hr, Nat.div_eq_of_lt hr]
  | succ k ih =>
    obtain ⟨h1, h2, h3⟩ := ih (by omega)
    have hM : r0.toNat * 2 ^ (k + 1) + part.toNat / 2 ^ (64 - (k + 1)) = 2 * (r0.toNat * 2 ^ k + part.toNat / 2 ^ (64 - k)) + part.toNat / 2 ^ (63 - k) % 2 := by
      have e1 : 64 - (k + 1) = 63 - k := by omega
      have e2 : 64 - k = (63 - k) + 1 := by omega
      rw [e1, e2, Nat.pow_succ, Nat.pow_succ, ← Nat.div_div_eq_div_mul, ← Nat.mul_assoc]
      omega
    have hst := ov_step hb0 hM h1
    have hbit : part.toNat / 2 ^ (63 - k) % 2 < 2 := Nat.mod_lt _ (by omega)
    have hrb : (tk part b (r0, 0#64) k).1.toNat < b.toNat := by rw [h1]; exact Nat.mod_lt _ hb0
    have hbl : b.toNat < 2 ^ 64 := b.isLt
    have hpk : 2 ^ k * 2 ≤ 2 ^ 64 := by rw [← Nat.pow_succ]; exact Nat.pow_le_pow_right (by omega) hk
    simp only [tk]
    generalize tk part b (r0, 0#64) k = T at *
    have e1 : (T.1 <<< 1 ||| (part >>> (63 - k) &&& 1#64)).toNat = (2 * T.1.toNat) % 2 ^ 64 + part.toNat / 2 ^ (63 - k) % 2 := by
      rw [or_bit, BitVec.toNat_ushiftRight, Nat.shiftRight_eq_div_pow]
    have e2 : T.1 >>> 63 = 1#64 ↔ 2 ^ 63 ≤ T.1.toNat := by
      have hT := T.1.isLt
      constructor
      · intro h
        have := congrArg BitVec.toNat h
        simp [Nat.shiftRight_eq_div_pow] at this
        omega
      · intro h
        apply BitVec.eq_of_toNat_eq
        simp [Nat.shiftRight_eq_div_pow]
        omega
    have e3 : (T.2 <<< 1).toNat = 2 * T.2.toNat := by
      rw [BitVec.toNat_shiftLeft, Nat.shiftLeft_eq, Nat.mod_eq_of_lt (by omega)]; omega
    have e4 : (T.2 <<< 1 ||| 1#64).toNat = 2 * T.2.toNat + 1 := by
      have := or_bit T.2 1#64
      simp only [BitVec.and_self] at this
      rw [this]; simp; omega
    generalize part.toNat / 2 ^ (63 - k) % 2 = bit at *
    have hc : (T.1 >>> 63 = 1#64 ∨ b ≤ (T.1 <<< 1 ||| (part >>> (63 - k) &&& 1#64))) ↔ b.toNat ≤ 2 * T.1.toNat + bit := by
      rw [e2, BitVec.le_def, e1]; omega
    rw [hM] at hst ⊢
    have hpow : 2 ^ (k + 1) = 2 ^ k * 2 := Nat.pow_succ ..
    by_cases h : b.toNat ≤ 2 * T.1.toNat + bit
    · rw [if_pos (hc.2 h)]
      obtain ⟨g1, g2⟩ := hst.2 h hbit
      rw [g1, g2]
      refine ⟨?_, by rw [e4]; omega, by rw [e4]; omega⟩
      rw [BitVec.toNat_sub, e1]; omega
    · rw [if_neg (fun h' => h (hc.1 h'))]
      obtain ⟨g1, g2⟩ := hst.1 (by omega)
      rw [g1, g2]
      exact ⟨by rw [e1]; omega, by rw [e3]; omega, by rw [e3]; omega⟩

/-- quotients of wide numbers are the reference's -/
theorem over_ref {hi lo b : BitVec 64} (hb : b ≠ 0#64) : oH hi b = ovQh hi lo b 0 64 ∧ oL hi lo b = ovQh hi lo b 64 64 ∧ oR hi lo b = ovR hi lo b 128 := by
  obtain ⟨o1, o2, o3⟩ := over_nat (hi := hi) (lo := lo) hb
  have hb0 : 0 < b.toNat := by
    rcases Nat.eq_zero_or_pos b.toNat with h | h
    · exact absurd (BitVec.eq_of_toNat_eq (by simpa using h)) hb
    · exact h
  obtain ⟨a1, a2, _⟩ := tk_inv (part := hi) (r0 := 0#64) hb (by simpa using hb0) 64 (by omega)
  simp at a1 a2
  obtain ⟨c1, c2, _⟩ := tk_inv (part := lo) (r0 := (tk hi b (0#64, 0#64) 64).1) hb (by rw [a1]; exact Nat.mod_lt _ hb0) 64 (by omega)
  rw [a1] at c1 c2
  simp only [Nat.sub_self, Nat.pow_zero, Nat.div_one] at c1 c2
  have hd : hi.toNat * 2 ^ 64 + lo.toNat = (hi.toNat % b.toNat * 2 ^ 64 + lo.toNat) + b.toNat * (hi.toNat / b.toNat * 2 ^ 64) := by
    have := Nat.div_add_mod hi.toNat b.toNat
    rw [← Nat.mul_assoc]
    generalize b.toNat * (hi.toNat / b.toNat) = X at *
    omega
  rw [hd, Nat.add_mul_div_left _ _ hb0] at o2
  rw [hd, Nat.add_mul_mod_self_left] at o3
  unfold oH oL oR
  rw [if_neg hb, if_neg hb, if_neg hb]
  exact ⟨BitVec.eq_of_toNat_eq (by omega), BitVec.eq_of_toNat_eq (by omega), BitVec.eq_of_toNat_eq (by omega)⟩

end
end Go.Proofs.YtflcjnekmjdckaaGreat
