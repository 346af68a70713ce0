/- Contracts of layer 1, by bits: signs and shifts. -/
import Derived.Test.YtanblagbkhpolaaB1
namespace Go.Proofs.Ytanblagbkhpolaa
open Go.Am
set_option linter.unusedSimpArgs false
set_option linter.unusedVariables false
noncomputable section

theorem sar_eq {x : BitVec 64} {u : Nat} (h : u ≤ 64) : BitVec.ofInt 64 (x.toInt / 2 ^ (min u 64)) = x.sshiftRight u := by
  rw [Nat.min_eq_left h]
  unfold BitVec.sshiftRight
  rw [Int.shiftRight_eq_div_pow]
  simp
theorem sar_get {x : BitVec 64} {u i : Nat} (hi : i < 64) : (x.sshiftRight u).getLsbD i = if i + u < 64 then x.getLsbD (i + u) else x.getLsbD 63 := by
  rw [BitVec.getLsbD_sshiftRight]
  have : decide (64 ≤ i) = false := by simp; omega
  simp only [this, Bool.not_false, Bool.true_and, BitVec.msb_eq_getLsbD_last]
  rw [Nat.add_comm]
theorem sign_0 {w : BitVec 64} {s : Int} (h : s < 1) : signU w s = 0#64 := by
  refine (ofG_ext fun i hi => ?_).symm
  have : ¬ 1 ≤ s := by omega
  simp [this]
theorem sign_all {w : BitVec 64} {s : Int} (h : 63 < s) : signU w s = w := by
  refine (ofG_ext fun i hi => ?_).symm
  have h1 : 1 ≤ s := by omega
  have h2 : (i : Int) < s := by omega
  simp [h1, h2]
theorem sign_mid {w : BitVec 64} {s : Nat} (h : 1 ≤ s) (h' : s ≤ 63) : (w <<< (64 - s)).sshiftRight (64 - s) = signU w s := by
  refine ofG_ext fun i hi => ?_
  rw [sar_get hi]
  have h1 : (1 : Int) ≤ s := by omega
  simp only [h1, decide_true, Bool.true_and]
  by_cases h2 : i < s
  · rw [if_pos (by omega), if_pos (by omega), BitVec.getLsbD_shiftLeft]
    have e : i + (64 - s) - (64 - s) = i := by omega
    have e2 : i + (64 - s) < 64 := by omega
    simp [e, e2]
  · rw [if_neg (by omega), if_neg (by omega), BitVec.getLsbD_shiftLeft]
    have e : ((s : Int) - 1) = ((s - 1 : Nat) : Int) := by omega
    rw [e, bitB_n]
    have e2 : 63 - (64 - s) = s - 1 := by omega
    simp [e2]; omega

def s_sign (args : List AV) : Option AV :=
  match args with
  | [.c (.u w), .c (.i s)] => if inR s then some (.c (.u (signU w s))) else none
  | _ => none
theorem s_sign_eq {w s} : s_sign [.c (.u w), .c (.i s)] = if inR s then some (.c (.u (signU w s))) else none := rfl
set_option maxRecDepth 100000 in
set_option maxHeartbeats 2000000 in
theorem ok_sign : PuOk Try.prog 53 s_sign := by
  refine pu_ok (tab := []) hmix TabOk.nil Try.func53 rfl Try.results53 Try.ntmps53 (by kernel_rfl) (by kernel_rfl) ?_
  intro args v h
  unfold s_sign at h
  split at h
  · rename_i w s
    split at h
    · rename_i hc
      simp only [Option.some.injEq] at h; subst h
      refine ⟨by simp only [List.length_cons, List.length_nil]; decide, rfl, rfl, ?_⟩
      obtain ⟨sl, sh⟩ := hc
      by_cases h1 : s < 1
      · simp (config := { maxSteps := 10000000 }) only [go_sem, seval, h1, sign_0 h1]
      · by_cases h2 : 63 < s
        · simp (config := { maxSteps := 10000000 }) only [go_sem, seval, h1, h2, sign_all h2]
        · obtain ⟨n, rfl⟩ := Int.eq_ofNat_of_zero_le (by omega : 0 ≤ s)
          have e1 : w64 (64 - (n : Int)) = ((64 - n : Nat) : Int) := by rw [w64_of (by omega)]; omega
          have e2 := ofI_nat (n := 64 - n) (by omega)
          have e3 := sar_eq (x := w <<< (64 - n)) (u := 64 - n) (by omega)
          simp (config := { maxSteps := 10000000 }) only [go_sem, seval, h1, h2, e1, e2, e3, sign_mid (w := w) (s := n) (by omega) (by omega)]
    · simp at h
  · simp at h

theorem word_int (w : BitVec 64) : IntKind.i32.wrap (IntKind.u32.wrap (w.toNat : Int)) = (w.setWidth 32).toInt := by
  rw [BitVec.toInt_eq_toNat_cond, BitVec.toNat_setWidth]
  simp only [IntKind.wrap, IntKind.bits, IntKind.signed, Bool.true_and, Bool.false_and]
  split <;> split <;> simp at * <;> omega
theorem sext_eq (w : BitVec 64) : BitVec.ofInt 64 (w.setWidth 32).toInt = signU w 32 := by
  refine ofG_ext fun i hi => ?_
  have : BitVec.ofInt 64 (w.setWidth 32).toInt = (w.setWidth 32).signExtend 64 := rfl
  rw [this, BitVec.getLsbD_signExtend]
  simp only [hi, decide_true, Bool.true_and, BitVec.msb_eq_getLsbD_last, BitVec.getLsbD_setWidth]
  have e : ((32 : Int) - 1) = ((31 : Nat) : Int) := rfl
  by_cases h : i < 32
  · have h2 : (i : Int) < 32 := by omega
    simp [h, h2]
  · have h2 : ¬ (i : Int) < 32 := by omega
    rw [if_neg h, if_neg h2, e, bitB_n]; simp
theorem word_eq (w : BitVec 64) : BitVec.ofInt 64 (IntKind.i32.wrap (IntKind.u32.wrap (w.toNat : Int))) = signU w 32 := by rw [word_int, sext_eq]


theorem and63 (n : BitVec 64) : (n &&& 63#64).toNat = n.toNat % 64 := by
  rw [BitVec.toNat_and]; exact Nat.and_two_pow_sub_one_eq_mod n.toNat 6
theorem and31 (n : BitVec 64) : (n &&& 31#64).toNat = n.toNat % 32 := by
  rw [BitVec.toNat_and]; exact Nat.and_two_pow_sub_one_eq_mod n.toNat 5
def sraU (w : BitVec 64) (f : Nat) : BitVec 64 := ofG fun i => if i + f < 64 then w.getLsbD (i + f) else w.getLsbD 63
theorem sraU_eq {w : BitVec 64} {f : Nat} : w.sshiftRight f = sraU w f := ofG_ext fun i hi => by rw [sar_get hi]
theorem sign_mod {x y : BitVec 64} (h : x.toNat % 4294967296 = y.toNat % 4294967296) : signU x 32 = signU y 32 := by
  have e : x.setWidth 32 = y.setWidth 32 := BitVec.eq_of_toNat_eq (by simpa using h)
  rw [← sext_eq, ← sext_eq, e]
theorem sllw_eq (w : BitVec 64) (f : Nat) (hf : f < 32) : signU (BitVec.ofInt 64 (IntKind.u32.wrap (IntKind.u32.wrap (w.toNat : Int) * 2 ^ (min f 32)))) 32 = signU (shiftU w (f : Int)) 32 := by
  apply sign_mod
  rw [shiftU_l, BitVec.toNat_shiftLeft, Nat.shiftLeft_eq]
  have e : min f 32 = f := Nat.min_eq_left (by omega)
  rw [e]
  have e1 : IntKind.u32.wrap (IntKind.u32.wrap (w.toNat : Int) * 2 ^ f) = ((w.toNat % 4294967296 * 2 ^ f % 4294967296 : Nat) : Int) := by
    have h : ∀ x : Int, IntKind.u32.wrap x = x % 4294967296 := fun x => by simp [IntKind.wrap, IntKind.bits, IntKind.signed]
    rw [h, h, Int.natCast_emod, Int.natCast_mul, Int.natCast_emod, Int.natCast_pow]; rfl
  have e2 : w.toNat % 4294967296 * 2 ^ f % 4294967296 = w.toNat * 2 ^ f % 4294967296 := by rw [Nat.mul_mod, Nat.mod_mod, ← Nat.mul_mod]
  rw [e1, ofI_nat (by omega)]
  generalize w.toNat % 4294967296 * 2 ^ f = A at *
  generalize w.toNat * 2 ^ f = B at *
  omega
theorem srlw_eq (w : BitVec 64) (f : Nat) (hf : f < 32) : BitVec.ofInt 64 (IntKind.u32.wrap (w.toNat : Int) / 2 ^ (min f 32)) = shiftU (lowU w 32) (-(f : Int)) := by
  have e : min f 32 = f := Nat.min_eq_left (by omega)
  have e1 : IntKind.u32.wrap (w.toNat : Int) / 2 ^ f = ((w.toNat % 4294967296 / 2 ^ f : Nat) : Int) := by
    simp [IntKind.wrap, IntKind.bits, IntKind.signed]
  rw [e, e1, shiftU_r]
  have e2 : lowU w 32 = BitVec.ofNat 64 (w.toNat % 4294967296) := by
    refine (ofG_ext fun i hi => ?_).symm
    rw [BitVec.getLsbD_ofNat, show (4294967296 : Nat) = 2 ^ 32 from rfl, Nat.testBit_mod_two_pow]
    have : decide (i < 32) = decide ((i : Int) < 32) := decide_eq_decide.2 (by omega)
    rw [this]; simp [hi]; rfl
  apply BitVec.eq_of_toNat_eq
  have h2 : w.toNat % 4294967296 / 2 ^ f ≤ w.toNat % 4294967296 := Nat.div_le_self _ _
  rw [ofI_nat (by omega), e2, BitVec.toNat_ushiftRight, Nat.shiftRight_eq_div_pow, BitVec.toNat_ofNat]
  congr 1; omega
theorem sraw_eq (w : BitVec 64) (f : Nat) (hf : f < 32) : BitVec.ofInt 64 (IntKind.i32.wrap (IntKind.u32.wrap (w.toNat : Int)) / 2 ^ (min f 32)) = sraU (signU w 32) f := by
  have e : min f 32 = f := Nat.min_eq_left (by omega)
  have e2 : (signU w 32).toInt = IntKind.i32.wrap (IntKind.u32.wrap (w.toNat : Int)) := by
    rw [word_int, ← sext_eq]
    exact BitVec.toInt_signExtend_of_le (by omega)
  rw [e, ← e2, ← sraU_eq, ← sar_eq (by omega : f ≤ 64), Nat.min_eq_left (by omega : f ≤ 64)]

end
end Go.Proofs.Ytanblagbkhpolaa
