/- Layer 25's law of what is marked. -/
import Derived.Test.YtanblagbkhpolaaPt2
namespace Go.Proofs.Ytanblagbkhpolaa
open Go.Am
set_option linter.unusedSimpArgs false
set_option linter.unusedVariables false
noncomputable section

theorem mark_get (p : BitVec 64) (a : Int) {i : Nat} (h6 : i ≠ 6) (h7 : i ≠ 7) : (markU p a).getLsbD i = p.getLsbD i := by
  have e6 : (64#64).getLsbD i = false := by
    have : 64#64 = 1#64 <<< 6 := by decide
    rw [this, BitVec.getLsbD_shiftLeft]
    by_cases h : i < 6
    · simp [h]
    · have h' : i - 6 ≠ 0 := by omega
      simp [h']
  have e7 : (128#64).getLsbD i = false := by
    have : 128#64 = 1#64 <<< 7 := by decide
    rw [this, BitVec.getLsbD_shiftLeft]
    by_cases h : i < 7
    · simp [h]
    · have h' : i - 7 ≠ 0 := by omega
      simp [h']
  unfold markU
  split <;> simp [BitVec.getLsbD_or, e6, e7]
theorem mark_bit (p : BitVec 64) (a : Int) {i : Nat} (h6 : i ≠ 6) (h7 : i ≠ 7) : bitB (markU p a) i = bitB p i := by rw [bitB_n, bitB_n, mark_get p a h6 h7]
theorem mark_twice (p : BitVec 64) (a : Int) : markU (markU p a) a = markU p a := by
  apply BitVec.eq_of_getLsbD_eq
  intro i hi
  unfold markU
  split <;> simp only [BitVec.getLsbD_or] <;> cases p.getLsbD i <;> cases (64#64).getLsbD i <;> simp
theorem mark_lets (p : BitVec 64) (a r : Int) (su mx : Bool) : letsB (markU p a) a r su mx = letsB p a r su mx := by
  have b1 : bitB (markU p a) 1 = bitB p 1 := mark_bit p a (i := 1) (by omega) (by omega)
  have b2 : bitB (markU p a) 2 = bitB p 2 := mark_bit p a (i := 2) (by omega) (by omega)
  have b3 : bitB (markU p a) 3 = bitB p 3 := mark_bit p a (i := 3) (by omega) (by omega)
  have b4 : bitB (markU p a) 4 = bitB p 4 := mark_bit p a (i := 4) (by omega) (by omega)
  have hp : passB (markU p a) a mx = passB p a mx := by simp only [passB, b1, b2, b3]
  unfold letsB
  rw [hp, b4]
theorem mark_ppn (p : BitVec 64) (a : Int) : cutU (markU p a) 10 44 = cutU p 10 44 := ofG_congr fun i hi => by
  have e : (10 : Int) + (i : Int) = ((10 + i : Nat) : Int) := by omega
  rw [e, mark_bit p a (by omega) (by omega)]
theorem mark_kind (p : BitVec 64) (a l : Int) (h : kindU p l = 2) : kindU (markU p a) l = 2 := by
  have b0 : bitB (markU p a) 0 = bitB p 0 := mark_bit p a (i := 0) (by omega) (by omega)
  have b1 : bitB (markU p a) 1 = bitB p 1 := mark_bit p a (i := 1) (by omega) (by omega)
  have b2 : bitB (markU p a) 2 = bitB p 2 := mark_bit p a (i := 2) (by omega) (by omega)
  have b3 : bitB (markU p a) 3 = bitB p 3 := mark_bit p a (i := 3) (by omega) (by omega)
  have e54 : markU p a >>> 54 = p >>> 54 := by
    apply BitVec.eq_of_getLsbD_eq
    intro i hi
    rw [BitVec.getLsbD_ushiftRight, BitVec.getLsbD_ushiftRight, mark_get p a (by omega) (by omega)]
  unfold kindU at h ⊢
  rw [b0, b1, b2, b3, e54, mark_ppn]
  by_cases c1 : l < 0
  · rw [if_pos c1] at h; simp at h
  rw [if_neg c1] at h ⊢
  by_cases c2 : 2 < l
  · rw [if_pos c2] at h; simp at h
  rw [if_neg c2] at h ⊢
  by_cases c3 : bitB p 0 = false
  · rw [if_pos c3] at h; simp at h
  rw [if_neg c3] at h ⊢
  by_cases c4 : bitB p 2 = true ∧ bitB p 1 = false
  · rw [if_pos c4] at h; simp at h
  rw [if_neg c4] at h ⊢
  by_cases c5 : p >>> 54 ≠ 0#64
  · rw [if_pos c5] at h; simp at h
  rw [if_neg c5] at h ⊢
  by_cases c6 : bitB p 1 = true ∨ bitB p 3 = true
  · rw [if_pos c6] at h ⊢; exact h
  · rw [if_neg c6] at h; split at h
    · simp at h
    · split at h <;> simp at h
theorem kind_low (p : BitVec 64) (l : Int) (h : kindU p l = 2) : lowU (cutU p 10 44) (9 * l) = 0#64 := by
  unfold kindU at h
  by_cases c1 : l < 0
  · rw [if_pos c1] at h; simp at h
  rw [if_neg c1] at h
  by_cases c2 : 2 < l
  · rw [if_pos c2] at h; simp at h
  rw [if_neg c2] at h
  by_cases c3 : bitB p 0 = false
  · rw [if_pos c3] at h; simp at h
  rw [if_neg c3] at h
  by_cases c4 : bitB p 2 = true ∧ bitB p 1 = false
  · rw [if_pos c4] at h; simp at h
  rw [if_neg c4] at h
  by_cases c5 : p >>> 54 ≠ 0#64
  · rw [if_pos c5] at h; simp at h
  rw [if_neg c5] at h
  by_cases c6 : bitB p 1 = true ∨ bitB p 3 = true
  · rw [if_pos c6] at h
    by_cases c7 : lowU (cutU p 10 44) (9 * l) = 0#64
    · exact c7
    · rw [if_pos c7] at h; simp at h
  · rw [if_neg c6] at h; split at h
    · simp at h
    · split at h <;> simp at h
theorem mask_get (n : Nat) (hn : n < 3) {i : Nat} (hi : i < 64) : ((1#64 <<< (12 + 9 * n)) - 1#64).getLsbD i = decide (i < 12 + 9 * n) := by
  have e3 : (1#64 <<< (12 + 9 * n)) - 1#64 = BitVec.ofNat 64 (2 ^ (12 + 9 * n) - 1) := by
    rcases (by omega : n = 0 ∨ n = 1 ∨ n = 2) with rfl | rfl | rfl <;> decide
  rw [e3, BitVec.getLsbD_ofNat, Nat.testBit_two_pow_sub_one]; simp [hi]
theorem frame_get (p v : BitVec 64) (n : Nat) (hn : n < 3) {i : Nat} (hi : i < 64) : (frameU p n v).getLsbD i = if i < 12 + 9 * n then v.getLsbD i else (cutU p 10 44).getLsbD (i - 12) := by
  unfold frameU
  rw [if_neg (by omega), if_neg (by omega), putU, ofG_get hi]
  by_cases h : i < 12 + 9 * n
  · have hp : inP 0 (12 + 9 * (n : Int)) i = true := decide_eq_true (by omega)
    rw [hp, if_pos rfl, if_pos h, Int.sub_zero, bitB_n]
  · have hp : inP 0 (12 + 9 * (n : Int)) i = false := decide_eq_false (by omega)
    have h2 : ¬ i < 12 := by omega
    rw [hp, if_neg (by simp), if_neg h, BitVec.getLsbD_shiftLeft]; simp [h2, hi]
theorem frame_up (p v : BitVec 64) (n : Nat) (hn : n < 3) (hl : lowU (cutU p 10 44) (9 * (n : Int)) = 0#64) : frameU p n v &&& ~~~((1#64 <<< (12 + 9 * n)) - 1#64) = cutU p 10 44 * 4096#64 := by
  rw [mul4096]
  apply BitVec.eq_of_getLsbD_eq
  intro i hi
  rw [BitVec.getLsbD_and, BitVec.getLsbD_not, mask_get n hn hi, frame_get p v n hn hi, BitVec.getLsbD_shiftLeft]
  by_cases h1 : i < 12
  · have h2 : i < 12 + 9 * n := by omega
    simp [h1, h2]
  · by_cases h2 : i < 12 + 9 * n
    · have e := congrArg (fun x => x.getLsbD (i - 12)) hl
      have c : (lowU (cutU p 10 44) (9 * (n : Int))).getLsbD (i - 12) = (decide (((i - 12 : Nat) : Int) < 9 * (n : Int)) && (cutU p 10 44).getLsbD (i - 12)) := ofG_get (by omega)
      simp only [c] at e
      rw [decide_eq_true (by omega), Bool.true_and] at e
      simp [h1, h2, e]
    · simp [h1, h2, hi]
theorem frame_low (p v : BitVec 64) (n : Nat) (hn : n < 3) : frameU p n v &&& ((1#64 <<< (12 + 9 * n)) - 1#64) = v &&& ((1#64 <<< (12 + 9 * n)) - 1#64) := by
  apply BitVec.eq_of_getLsbD_eq
  intro i hi
  rw [BitVec.getLsbD_and, BitVec.getLsbD_and, mask_get n hn hi, frame_get p v n hn hi]
  by_cases h2 : i < 12 + 9 * n
  · simp [h2]
  · simp [h2]

end
end Go.Proofs.Ytanblagbkhpolaa
