/- Layer 3: the reference's sum is the program's word (printed by gj10.py): plain laws. -/
import Derived.Test.YtcfnfdafcfpohaaJ7
namespace Go.Proofs.Ytcfnfdafcfpohaa
open Go.Am
set_option linter.unusedSimpArgs false
set_option linter.unusedVariables false
noncomputable section

theorem addw {A B : BitVec 32} (h : A &&& B = 0#32) : A.setWidth 64 + B.setWidth 64 = (A ||| B).setWidth 64 := by
  have e : ∀ X Y : BitVec 32, X.setWidth 64 &&& Y.setWidth 64 = (X &&& Y).setWidth 64 := fun X Y => by
    apply BitVec.eq_of_getLsbD_eq; intro i hi; simp only [BitVec.getLsbD_and, BitVec.getLsbD_setWidth]; simp [hi]
  have e2 : A.setWidth 64 ||| B.setWidth 64 = (A ||| B).setWidth 64 := by
    apply BitVec.eq_of_getLsbD_eq; intro i hi; simp only [BitVec.getLsbD_or, BitVec.getLsbD_setWidth]; simp [hi]
  rw [BitVec.add_eq_or_of_and_eq_zero _ _ (by rw [e, h]; rfl), e2]
theorem mul7 (d : BitVec 5) : 128#64 * BitVec.ofInt 64 (d.toNat : Int) = (d.setWidth 32 <<< 7).setWidth 64 := by
  apply BitVec.eq_of_toNat_eq
  rw [BitVec.toNat_mul, BitVec.toNat_ofInt, BitVec.toNat_setWidth, BitVec.toNat_shiftLeft, BitVec.toNat_setWidth, Nat.shiftLeft_eq, show (128#64).toNat = 128 from rfl]
  have := d.isLt
  omega
theorem mul15 (d : BitVec 5) : 32768#64 * BitVec.ofInt 64 (d.toNat : Int) = (d.setWidth 32 <<< 15).setWidth 64 := by
  apply BitVec.eq_of_toNat_eq
  rw [BitVec.toNat_mul, BitVec.toNat_ofInt, BitVec.toNat_setWidth, BitVec.toNat_shiftLeft, BitVec.toNat_setWidth, Nat.shiftLeft_eq, show (32768#64).toNat = 32768 from rfl]
  have := d.isLt
  omega
theorem mul20 (d : BitVec 5) : 1048576#64 * BitVec.ofInt 64 (d.toNat : Int) = (d.setWidth 32 <<< 20).setWidth 64 := by
  apply BitVec.eq_of_toNat_eq
  rw [BitVec.toNat_mul, BitVec.toNat_ofInt, BitVec.toNat_setWidth, BitVec.toNat_shiftLeft, BitVec.toNat_setWidth, Nat.shiftLeft_eq, show (1048576#64).toNat = 1048576 from rfl]
  have := d.isLt
  omega
theorem mulc (d : BitVec 12) : 1048576#64 * BitVec.ofInt 64 (d.toNat : Int) = (d.setWidth 32 <<< 20).setWidth 64 := by
  apply BitVec.eq_of_toNat_eq
  rw [BitVec.toNat_mul, BitVec.toNat_ofInt, BitVec.toNat_setWidth, BitVec.toNat_shiftLeft, BitVec.toNat_setWidth, Nat.shiftLeft_eq, show (1048576#64).toNat = 1048576 from rfl]
  have := d.isLt
  omega
theorem mz : 128#64 * BitVec.ofInt 64 0 = 0#64 ∧ 32768#64 * BitVec.ofInt 64 0 = 0#64 ∧ 1048576#64 * BitVec.ofInt 64 0 = 0#64 := by decide
/-- the reference's sum -/
def sumT (v : BitVec 32) (f rd r1 r2 im cs : Int) (aq rl : Bool) : BitVec 64 :=
  let w := ((((v.setWidth 64 + (layE f (BitVec.ofInt 64 im)).setWidth 64) + 128#64 * BitVec.ofInt 64 rd) + 32768#64 * BitVec.ofInt 64 r1) + 1048576#64 * BitVec.ofInt 64 r2) + 1048576#64 * BitVec.ofInt 64 cs
  let w := if aq = true then w + 67108864#64 else w
  if rl = true then w + 33554432#64 else w
theorem z32 : (0#32).setWidth 64 = 0#64 := rfl
theorem q26w : (67108864#64) = (67108864#32).setWidth 64 := rfl
theorem q25w : (33554432#64) = (33554432#32).setWidth 64 := rfl
theorem sm1 {v : BitVec 32} (hv : v &&& 4261441663#32 = v) {rd r1 r2 im cs : Int} {aq rl : Bool} (h : checkT 1 rd r1 r2 im cs aq rl = 0) : sumT v 1 rd r1 r2 im cs aq rl = (encV v 1 rd r1 r2 im cs aq rl).setWidth 64 := by
  rw [check_iff] at h
  obtain ⟨_, hform, hd, hs, ht, hc, hf⟩ := h
  simp [formB, fdT] at hform
  obtain ⟨z_im, z_cs, z_aq, z_rl⟩ := hform
  subst z_im
  subst z_cs
  subst z_aq
  subst z_rl
  obtain ⟨d, rfl⟩ := r5 hd
  obtain ⟨s, rfl⟩ := r5 hs
  obtain ⟨t, rfl⟩ := r5 ht
  obtain ⟨m1, m2, m3⟩ := mz
  have k0 : ((v &&& 4261441663#32) &&& (d.setWidth 32 <<< 7) = 0#32) := by apply all32 <;> simp []
  rw [hv] at k0
  have k1 : ((v &&& 4261441663#32 ||| (d.setWidth 32 <<< 7)) &&& (s.setWidth 32 <<< 15) = 0#32) := by apply all32 <;> simp []
  rw [hv] at k1
  have k2 : ((v &&& 4261441663#32 ||| (d.setWidth 32 <<< 7) ||| (s.setWidth 32 <<< 15)) &&& (t.setWidth 32 <<< 20) = 0#32) := by apply all32 <;> simp []
  rw [hv] at k2
  unfold sumT encV
  rw [lyE1]
  simp only [o5, o12, oz, m1, m2, m3, z32, BitVec.add_zero, BitVec.zero_or, BitVec.or_zero, BitVec.zero_shiftLeft, ← BitVec.or_assoc, Bool.false_eq_true, if_false, mul7, mul15, mul20]
  rw [addw k0, addw k1, addw k2]
theorem sm2 {v : BitVec 32} (hv : v &&& 28799#32 = v) {rd r1 r2 im cs : Int} {aq rl : Bool} (h : checkT 2 rd r1 r2 im cs aq rl = 0) : sumT v 2 rd r1 r2 im cs aq rl = (encV v 2 rd r1 r2 im cs aq rl).setWidth 64 := by
  rw [check_iff] at h
  obtain ⟨_, hform, hd, hs, ht, hc, hf⟩ := h
  simp [formB, fdT] at hform
  obtain ⟨z_r2, z_cs, z_aq, z_rl⟩ := hform
  subst z_r2
  subst z_cs
  subst z_aq
  subst z_rl
  obtain ⟨d, rfl⟩ := r5 hd
  obtain ⟨s, rfl⟩ := r5 hs
  obtain ⟨y, rfl⟩ := fitsI hf
  obtain ⟨m1, m2, m3⟩ := mz
  have k0 : ((v &&& 28799#32) &&& lyI y = 0#32) := by apply all32 <;> simp [lyI]
  rw [hv] at k0
  have k1 : ((v &&& 28799#32 ||| lyI y) &&& (d.setWidth 32 <<< 7) = 0#32) := by apply all32 <;> simp [lyI]
  rw [hv] at k1
  have k2 : ((v &&& 28799#32 ||| lyI y ||| (d.setWidth 32 <<< 7)) &&& (s.setWidth 32 <<< 15) = 0#32) := by apply all32 <;> simp [lyI]
  rw [hv] at k2
  unfold sumT encV
  rw [lyEI]
  simp only [o5, o12, oz, m1, m2, m3, z32, BitVec.add_zero, BitVec.zero_or, BitVec.or_zero, BitVec.zero_shiftLeft, ← BitVec.or_assoc, Bool.false_eq_true, if_false, mul7, mul15]
  rw [addw k0, addw k1, addw k2]
theorem sm3 {v : BitVec 32} (hv : v &&& 28799#32 = v) {rd r1 r2 im cs : Int} {aq rl : Bool} (h : checkT 3 rd r1 r2 im cs aq rl = 0) : sumT v 3 rd r1 r2 im cs aq rl = (encV v 3 rd r1 r2 im cs aq rl).setWidth 64 := by
  rw [check_iff] at h
  obtain ⟨_, hform, hd, hs, ht, hc, hf⟩ := h
  simp [formB, fdT] at hform
  obtain ⟨z_rd, z_cs, z_aq, z_rl⟩ := hform
  subst z_rd
  subst z_cs
  subst z_aq
  subst z_rl
  obtain ⟨s, rfl⟩ := r5 hs
  obtain ⟨t, rfl⟩ := r5 ht
  obtain ⟨y, rfl⟩ := fitsS hf
  obtain ⟨m1, m2, m3⟩ := mz
  have k0 : ((v &&& 28799#32) &&& lyS y = 0#32) := by apply all32 <;> simp [lyS]
  rw [hv] at k0
  have k1 : ((v &&& 28799#32 ||| lyS y) &&& (s.setWidth 32 <<< 15) = 0#32) := by apply all32 <;> simp [lyS]
  rw [hv] at k1
  have k2 : ((v &&& 28799#32 ||| lyS y ||| (s.setWidth 32 <<< 15)) &&& (t.setWidth 32 <<< 20) = 0#32) := by apply all32 <;> simp [lyS]
  rw [hv] at k2
  unfold sumT encV
  rw [lyES]
  simp only [o5, o12, oz, m1, m2, m3, z32, BitVec.add_zero, BitVec.zero_or, BitVec.or_zero, BitVec.zero_shiftLeft, ← BitVec.or_assoc, Bool.false_eq_true, if_false, mul15, mul20]
  rw [addw k0, addw k1, addw k2]
theorem sm4 {v : BitVec 32} (hv : v &&& 28799#32 = v) {rd r1 r2 im cs : Int} {aq rl : Bool} (h : checkT 4 rd r1 r2 im cs aq rl = 0) : sumT v 4 rd r1 r2 im cs aq rl = (encV v 4 rd r1 r2 im cs aq rl).setWidth 64 := by
  rw [check_iff] at h
  obtain ⟨_, hform, hd, hs, ht, hc, hf⟩ := h
  simp [formB, fdT] at hform
  obtain ⟨z_rd, z_cs, z_aq, z_rl⟩ := hform
  subst z_rd
  subst z_cs
  subst z_aq
  subst z_rl
  obtain ⟨s, rfl⟩ := r5 hs
  obtain ⟨t, rfl⟩ := r5 ht
  obtain ⟨y, rfl⟩ := fitsB hf
  obtain ⟨m1, m2, m3⟩ := mz
  have k0 : ((v &&& 28799#32) &&& lyB y = 0#32) := by apply all32 <;> simp [lyB]
  rw [hv] at k0
  have k1 : ((v &&& 28799#32 ||| lyB y) &&& (s.setWidth 32 <<< 15) = 0#32) := by apply all32 <;> simp [lyB]
  rw [hv] at k1
  have k2 : ((v &&& 28799#32 ||| lyB y ||| (s.setWidth 32 <<< 15)) &&& (t.setWidth 32 <<< 20) = 0#32) := by apply all32 <;> simp [lyB]
  rw [hv] at k2
  unfold sumT encV
  rw [lyEB]
  simp only [o5, o12, oz, m1, m2, m3, z32, BitVec.add_zero, BitVec.zero_or, BitVec.or_zero, BitVec.zero_shiftLeft, ← BitVec.or_assoc, Bool.false_eq_true, if_false, mul15, mul20]
  rw [addw k0, addw k1, addw k2]
theorem sm5 {v : BitVec 32} (hv : v &&& 127#32 = v) {rd r1 r2 im cs : Int} {aq rl : Bool} (h : checkT 5 rd r1 r2 im cs aq rl = 0) : sumT v 5 rd r1 r2 im cs aq rl = (encV v 5 rd r1 r2 im cs aq rl).setWidth 64 := by
  rw [check_iff] at h
  obtain ⟨_, hform, hd, hs, ht, hc, hf⟩ := h
  simp [formB, fdT] at hform
  obtain ⟨z_r1, z_r2, z_cs, z_aq, z_rl⟩ := hform
  subst z_r1
  subst z_r2
  subst z_cs
  subst z_aq
  subst z_rl
  obtain ⟨d, rfl⟩ := r5 hd
  obtain ⟨y, rfl⟩ := fitsU hf
  obtain ⟨m1, m2, m3⟩ := mz
  have k0 : ((v &&& 127#32) &&& lyU y = 0#32) := by apply all32 <;> simp [lyU]
  rw [hv] at k0
  have k1 : ((v &&& 127#32 ||| lyU y) &&& (d.setWidth 32 <<< 7) = 0#32) := by apply all32 <;> simp [lyU]
  rw [hv] at k1
  unfold sumT encV
  rw [lyEU]
  simp only [o5, o12, oz, m1, m2, m3, z32, BitVec.add_zero, BitVec.zero_or, BitVec.or_zero, BitVec.zero_shiftLeft, ← BitVec.or_assoc, Bool.false_eq_true, if_false, mul7]
  rw [addw k0, addw k1]
theorem sm6 {v : BitVec 32} (hv : v &&& 127#32 = v) {rd r1 r2 im cs : Int} {aq rl : Bool} (h : checkT 6 rd r1 r2 im cs aq rl = 0) : sumT v 6 rd r1 r2 im cs aq rl = (encV v 6 rd r1 r2 im cs aq rl).setWidth 64 := by
  rw [check_iff] at h
  obtain ⟨_, hform, hd, hs, ht, hc, hf⟩ := h
  simp [formB, fdT] at hform
  obtain ⟨z_r1, z_r2, z_cs, z_aq, z_rl⟩ := hform
  subst z_r1
  subst z_r2
  subst z_cs
  subst z_aq
  subst z_rl
  obtain ⟨d, rfl⟩ := r5 hd
  obtain ⟨y, rfl⟩ := fitsJ hf
  obtain ⟨m1, m2, m3⟩ := mz
  have k0 : ((v &&& 127#32) &&& lyJ y = 0#32) := by apply all32 <;> simp [lyJ]
  rw [hv] at k0
  have k1 : ((v &&& 127#32 ||| lyJ y) &&& (d.setWidth 32 <<< 7) = 0#32) := by apply all32 <;> simp [lyJ]
  rw [hv] at k1
  unfold sumT encV
  rw [lyEJ]
  simp only [o5, o12, oz, m1, m2, m3, z32, BitVec.add_zero, BitVec.zero_or, BitVec.or_zero, BitVec.zero_shiftLeft, ← BitVec.or_assoc, Bool.false_eq_true, if_false, mul7]
  rw [addw k0, addw k1]
theorem sm7 {v : BitVec 32} (hv : v &&& 4227887231#32 = v) {rd r1 r2 im cs : Int} {aq rl : Bool} (h : checkT 7 rd r1 r2 im cs aq rl = 0) : sumT v 7 rd r1 r2 im cs aq rl = (encV v 7 rd r1 r2 im cs aq rl).setWidth 64 := by
  rw [check_iff] at h
  obtain ⟨_, hform, hd, hs, ht, hc, hf⟩ := h
  simp [formB, fdT] at hform
  obtain ⟨z_r2, z_cs, z_aq, z_rl⟩ := hform
  subst z_r2
  subst z_cs
  subst z_aq
  subst z_rl
  obtain ⟨d, rfl⟩ := r5 hd
  obtain ⟨s, rfl⟩ := r5 hs
  obtain ⟨y, rfl⟩ := fitsH hf
  obtain ⟨m1, m2, m3⟩ := mz
  have k0 : ((v &&& 4227887231#32) &&& lyH y = 0#32) := by apply all32 <;> simp [lyH]
  rw [hv] at k0
  have k1 : ((v &&& 4227887231#32 ||| lyH y) &&& (d.setWidth 32 <<< 7) = 0#32) := by apply all32 <;> simp [lyH]
  rw [hv] at k1
  have k2 : ((v &&& 4227887231#32 ||| lyH y ||| (d.setWidth 32 <<< 7)) &&& (s.setWidth 32 <<< 15) = 0#32) := by apply all32 <;> simp [lyH]
  rw [hv] at k2
  unfold sumT encV
  rw [lyEH]
  simp only [o5, o12, oz, m1, m2, m3, z32, BitVec.add_zero, BitVec.zero_or, BitVec.or_zero, BitVec.zero_shiftLeft, ← BitVec.or_assoc, Bool.false_eq_true, if_false, mul7, mul15]
  rw [addw k0, addw k1, addw k2]
theorem sm8 {v : BitVec 32} (hv : v &&& 4261441663#32 = v) {rd r1 r2 im cs : Int} {aq rl : Bool} (h : checkT 8 rd r1 r2 im cs aq rl = 0) : sumT v 8 rd r1 r2 im cs aq rl = (encV v 8 rd r1 r2 im cs aq rl).setWidth 64 := by
  rw [check_iff] at h
  obtain ⟨_, hform, hd, hs, ht, hc, hf⟩ := h
  simp [formB, fdT] at hform
  obtain ⟨z_r2, z_cs, z_aq, z_rl⟩ := hform
  subst z_r2
  subst z_cs
  subst z_aq
  subst z_rl
  obtain ⟨d, rfl⟩ := r5 hd
  obtain ⟨s, rfl⟩ := r5 hs
  obtain ⟨y, rfl⟩ := fitsW hf
  obtain ⟨m1, m2, m3⟩ := mz
  have k0 : ((v &&& 4261441663#32) &&& lyW y = 0#32) := by apply all32 <;> simp [lyW]
  rw [hv] at k0
  have k1 : ((v &&& 4261441663#32 ||| lyW y) &&& (d.setWidth 32 <<< 7) = 0#32) := by apply all32 <;> simp [lyW]
  rw [hv] at k1
  have k2 : ((v &&& 4261441663#32 ||| lyW y ||| (d.setWidth 32 <<< 7)) &&& (s.setWidth 32 <<< 15) = 0#32) := by apply all32 <;> simp [lyW]
  rw [hv] at k2
  unfold sumT encV
  rw [lyEW]
  simp only [o5, o12, oz, m1, m2, m3, z32, BitVec.add_zero, BitVec.zero_or, BitVec.or_zero, BitVec.zero_shiftLeft, ← BitVec.or_assoc, Bool.false_eq_true, if_false, mul7, mul15]
  rw [addw k0, addw k1, addw k2]
theorem sm9 {v : BitVec 32} (hv : v &&& 28799#32 = v) {rd r1 r2 im cs : Int} {aq rl : Bool} (h : checkT 9 rd r1 r2 im cs aq rl = 0) : sumT v 9 rd r1 r2 im cs aq rl = (encV v 9 rd r1 r2 im cs aq rl).setWidth 64 := by
  rw [check_iff] at h
  obtain ⟨_, hform, hd, hs, ht, hc, hf⟩ := h
  simp [formB, fdT] at hform
  obtain ⟨z_r2, z_im, z_aq, z_rl⟩ := hform
  subst z_r2
  subst z_im
  subst z_aq
  subst z_rl
  obtain ⟨d, rfl⟩ := r5 hd
  obtain ⟨s, rfl⟩ := r5 hs
  obtain ⟨c, rfl⟩ := r12 hc
  obtain ⟨m1, m2, m3⟩ := mz
  have k0 : ((v &&& 28799#32) &&& (d.setWidth 32 <<< 7) = 0#32) := by apply all32 <;> simp []
  rw [hv] at k0
  have k1 : ((v &&& 28799#32 ||| (d.setWidth 32 <<< 7)) &&& (s.setWidth 32 <<< 15) = 0#32) := by apply all32 <;> simp []
  rw [hv] at k1
  have k2 : ((v &&& 28799#32 ||| (d.setWidth 32 <<< 7) ||| (s.setWidth 32 <<< 15)) &&& (c.setWidth 32 <<< 20) = 0#32) := by apply all32 <;> simp []
  rw [hv] at k2
  unfold sumT encV
  rw [lyE9]
  simp only [o5, o12, oz, m1, m2, m3, z32, BitVec.add_zero, BitVec.zero_or, BitVec.or_zero, BitVec.zero_shiftLeft, ← BitVec.or_assoc, Bool.false_eq_true, if_false, mul7, mul15, mulc]
  rw [addw k0, addw k1, addw k2]
theorem sm10 {v : BitVec 32} (hv : v &&& 28799#32 = v) {rd r1 r2 im cs : Int} {aq rl : Bool} (h : checkT 10 rd r1 r2 im cs aq rl = 0) : sumT v 10 rd r1 r2 im cs aq rl = (encV v 10 rd r1 r2 im cs aq rl).setWidth 64 := by
  rw [check_iff] at h
  obtain ⟨_, hform, hd, hs, ht, hc, hf⟩ := h
  simp [formB, fdT] at hform
  obtain ⟨z_r2, z_im, z_aq, z_rl⟩ := hform
  subst z_r2
  subst z_im
  subst z_aq
  subst z_rl
  obtain ⟨d, rfl⟩ := r5 hd
  obtain ⟨s, rfl⟩ := r5 hs
  obtain ⟨c, rfl⟩ := r12 hc
  obtain ⟨m1, m2, m3⟩ := mz
  have k0 : ((v &&& 28799#32) &&& (d.setWidth 32 <<< 7) = 0#32) := by apply all32 <;> simp []
  rw [hv] at k0
  have k1 : ((v &&& 28799#32 ||| (d.setWidth 32 <<< 7)) &&& (s.setWidth 32 <<< 15) = 0#32) := by apply all32 <;> simp []
  rw [hv] at k1
  have k2 : ((v &&& 28799#32 ||| (d.setWidth 32 <<< 7) ||| (s.setWidth 32 <<< 15)) &&& (c.setWidth 32 <<< 20) = 0#32) := by apply all32 <;> simp []
  rw [hv] at k2
  unfold sumT encV
  rw [lyE10]
  simp only [o5, o12, oz, m1, m2, m3, z32, BitVec.add_zero, BitVec.zero_or, BitVec.or_zero, BitVec.zero_shiftLeft, ← BitVec.or_assoc, Bool.false_eq_true, if_false, mul7, mul15, mulc]
  rw [addw k0, addw k1, addw k2]
theorem sm11 {v : BitVec 32} (hv : v &&& 4160778367#32 = v) {rd r1 r2 im cs : Int} {aq rl : Bool} (h : checkT 11 rd r1 r2 im cs aq rl = 0) : sumT v 11 rd r1 r2 im cs aq rl = (encV v 11 rd r1 r2 im cs aq rl).setWidth 64 := by
  rw [check_iff] at h
  obtain ⟨_, hform, hd, hs, ht, hc, hf⟩ := h
  simp [formB, fdT] at hform
  obtain ⟨z_im, z_cs⟩ := hform
  subst z_im
  subst z_cs
  obtain ⟨d, rfl⟩ := r5 hd
  obtain ⟨s, rfl⟩ := r5 hs
  obtain ⟨t, rfl⟩ := r5 ht
  obtain ⟨m1, m2, m3⟩ := mz
  have k0 : ((v &&& 4160778367#32) &&& (d.setWidth 32 <<< 7) = 0#32) := by apply all32 <;> simp []
  rw [hv] at k0
  have k1 : ((v &&& 4160778367#32 ||| (d.setWidth 32 <<< 7)) &&& (s.setWidth 32 <<< 15) = 0#32) := by apply all32 <;> simp []
  rw [hv] at k1
  have k2 : ((v &&& 4160778367#32 ||| (d.setWidth 32 <<< 7) ||| (s.setWidth 32 <<< 15)) &&& (t.setWidth 32 <<< 20) = 0#32) := by apply all32 <;> simp []
  rw [hv] at k2
  have k3 : ((v &&& 4160778367#32 ||| (d.setWidth 32 <<< 7) ||| (s.setWidth 32 <<< 15) ||| (t.setWidth 32 <<< 20)) &&& 67108864#32 = 0#32) := by apply all32 <;> simp
  have k4 : ((v &&& 4160778367#32 ||| (d.setWidth 32 <<< 7) ||| (s.setWidth 32 <<< 15) ||| (t.setWidth 32 <<< 20)) &&& 33554432#32 = 0#32) := by apply all32 <;> simp
  have k5 : ((v &&& 4160778367#32 ||| (d.setWidth 32 <<< 7) ||| (s.setWidth 32 <<< 15) ||| (t.setWidth 32 <<< 20) ||| 67108864#32) &&& 33554432#32 = 0#32) := by apply all32 <;> simp
  rw [hv] at k3 k4 k5
  unfold sumT encV
  rw [lyE11]
  simp only [o5, o12, oz, m1, m2, m3, z32, BitVec.add_zero, BitVec.zero_or, BitVec.or_zero, BitVec.zero_shiftLeft, ← BitVec.or_assoc, mul7, mul15, mul20]
  cases aq <;> cases rl
  · simp only [Bool.false_eq_true, if_false, BitVec.or_zero]
    rw [addw k0, addw k1, addw k2]
  · simp only [Bool.false_eq_true, if_false, if_true, BitVec.or_zero]
    rw [addw k0, addw k1, addw k2, q25w, addw k4]
  · simp only [Bool.false_eq_true, if_false, if_true, BitVec.or_zero]
    rw [addw k0, addw k1, addw k2, q26w, addw k3]
  · simp only [if_true]
    rw [addw k0, addw k1, addw k2, q26w, addw k3, q25w, addw k5]
theorem sm12 {v : BitVec 32} (hv : v &&& 4193284223#32 = v) {rd r1 r2 im cs : Int} {aq rl : Bool} (h : checkT 12 rd r1 r2 im cs aq rl = 0) : sumT v 12 rd r1 r2 im cs aq rl = (encV v 12 rd r1 r2 im cs aq rl).setWidth 64 := by
  rw [check_iff] at h
  obtain ⟨_, hform, hd, hs, ht, hc, hf⟩ := h
  simp [formB, fdT] at hform
  obtain ⟨z_r2, z_im, z_cs⟩ := hform
  subst z_r2
  subst z_im
  subst z_cs
  obtain ⟨d, rfl⟩ := r5 hd
  obtain ⟨s, rfl⟩ := r5 hs
  obtain ⟨m1, m2, m3⟩ := mz
  have k0 : ((v &&& 4193284223#32) &&& (d.setWidth 32 <<< 7) = 0#32) := by apply all32 <;> simp []
  rw [hv] at k0
  have k1 : ((v &&& 4193284223#32 ||| (d.setWidth 32 <<< 7)) &&& (s.setWidth 32 <<< 15) = 0#32) := by apply all32 <;> simp []
  rw [hv] at k1
  have k2 : ((v &&& 4193284223#32 ||| (d.setWidth 32 <<< 7) ||| (s.setWidth 32 <<< 15)) &&& 67108864#32 = 0#32) := by apply all32 <;> simp
  have k3 : ((v &&& 4193284223#32 ||| (d.setWidth 32 <<< 7) ||| (s.setWidth 32 <<< 15)) &&& 33554432#32 = 0#32) := by apply all32 <;> simp
  have k4 : ((v &&& 4193284223#32 ||| (d.setWidth 32 <<< 7) ||| (s.setWidth 32 <<< 15) ||| 67108864#32) &&& 33554432#32 = 0#32) := by apply all32 <;> simp
  rw [hv] at k2 k3 k4
  unfold sumT encV
  rw [lyE12]
  simp only [o5, o12, oz, m1, m2, m3, z32, BitVec.add_zero, BitVec.zero_or, BitVec.or_zero, BitVec.zero_shiftLeft, ← BitVec.or_assoc, mul7, mul15]
  cases aq <;> cases rl
  · simp only [Bool.false_eq_true, if_false, BitVec.or_zero]
    rw [addw k0, addw k1]
  · simp only [Bool.false_eq_true, if_false, if_true, BitVec.or_zero]
    rw [addw k0, addw k1, q25w, addw k3]
  · simp only [Bool.false_eq_true, if_false, if_true, BitVec.or_zero]
    rw [addw k0, addw k1, q26w, addw k2]
  · simp only [if_true]
    rw [addw k0, addw k1, q26w, addw k2, q25w, addw k4]
theorem sm13 {v : BitVec 32} (hv : v &&& 4294967295#32 = v) {rd r1 r2 im cs : Int} {aq rl : Bool} (h : checkT 13 rd r1 r2 im cs aq rl = 0) : sumT v 13 rd r1 r2 im cs aq rl = (encV v 13 rd r1 r2 im cs aq rl).setWidth 64 := by
  rw [check_iff] at h
  obtain ⟨_, hform, hd, hs, ht, hc, hf⟩ := h
  simp [formB, fdT] at hform
  obtain ⟨z_rd, z_r1, z_r2, z_im, z_cs, z_aq, z_rl⟩ := hform
  subst z_rd
  subst z_r1
  subst z_r2
  subst z_im
  subst z_cs
  subst z_aq
  subst z_rl
  obtain ⟨m1, m2, m3⟩ := mz
  unfold sumT encV
  rw [lyE13]
  simp only [o5, o12, oz, m1, m2, m3, z32, BitVec.add_zero, BitVec.zero_or, BitVec.or_zero, BitVec.zero_shiftLeft, ← BitVec.or_assoc, Bool.false_eq_true, if_false]
theorem sm14 {v : BitVec 32} (hv : v &&& 4261445631#32 = v) {rd r1 r2 im cs : Int} {aq rl : Bool} (h : checkT 14 rd r1 r2 im cs aq rl = 0) : sumT v 14 rd r1 r2 im cs aq rl = (encV v 14 rd r1 r2 im cs aq rl).setWidth 64 := by
  rw [check_iff] at h
  obtain ⟨_, hform, hd, hs, ht, hc, hf⟩ := h
  simp [formB, fdT] at hform
  obtain ⟨z_rd, z_im, z_cs, z_aq, z_rl⟩ := hform
  subst z_rd
  subst z_im
  subst z_cs
  subst z_aq
  subst z_rl
  obtain ⟨s, rfl⟩ := r5 hs
  obtain ⟨t, rfl⟩ := r5 ht
  obtain ⟨m1, m2, m3⟩ := mz
  have k0 : ((v &&& 4261445631#32) &&& (s.setWidth 32 <<< 15) = 0#32) := by apply all32 <;> simp []
  rw [hv] at k0
  have k1 : ((v &&& 4261445631#32 ||| (s.setWidth 32 <<< 15)) &&& (t.setWidth 32 <<< 20) = 0#32) := by apply all32 <;> simp []
  rw [hv] at k1
  unfold sumT encV
  rw [lyE14]
  simp only [o5, o12, oz, m1, m2, m3, z32, BitVec.add_zero, BitVec.zero_or, BitVec.or_zero, BitVec.zero_shiftLeft, ← BitVec.or_assoc, Bool.false_eq_true, if_false, mul15, mul20]
  rw [addw k0, addw k1]
theorem sum_eq {op : Int} {rd r1 r2 im cs : Int} {aq rl : Bool} (h : checkT (fmtT op) rd r1 r2 im cs aq rl = 0) : sumT (vB op) (fmtT op) rd r1 r2 im cs aq rl = BitVec.ofInt 64 (encT op rd r1 r2 im cs aq rl) := by
  have fz0 : fmtT op ≠ 0 := by rw [check_iff] at h; exact h.1
  have ho := fmt_in fz0
  obtain ⟨hv, _, _⟩ := op_v ho
  rw [enc_E (by omega) h, enc_V, W_b]
  have m : mB op = BitVec.ofInt 32 (maskT (fmtT op)) := rfl
  rw [m] at hv
  generalize vB op = v at *
  rcases f_cases (fmt_rg op) with e | e | e | e | e | e | e | e | e | e | e | e | e | e | e
  · exact absurd e fz0
  · rw [e] at h hv ⊢; exact sm1 hv h
  · rw [e] at h hv ⊢; exact sm2 hv h
  · rw [e] at h hv ⊢; exact sm3 hv h
  · rw [e] at h hv ⊢; exact sm4 hv h
  · rw [e] at h hv ⊢; exact sm5 hv h
  · rw [e] at h hv ⊢; exact sm6 hv h
  · rw [e] at h hv ⊢; exact sm7 hv h
  · rw [e] at h hv ⊢; exact sm8 hv h
  · rw [e] at h hv ⊢; exact sm9 hv h
  · rw [e] at h hv ⊢; exact sm10 hv h
  · rw [e] at h hv ⊢; exact sm11 hv h
  · rw [e] at h hv ⊢; exact sm12 hv h
  · rw [e] at h hv ⊢; exact sm13 hv h
  · rw [e] at h hv ⊢; exact sm14 hv h
theorem fix_64 {op : Int} (h : 0 ≤ op ∧ op ≤ 98) : BitVec.ofInt 64 (fixV op) = (vB op).setWidth 64 := by rw [(mv_eq h).2, W_b]
end
end Go.Proofs.Ytcfnfdafcfpohaa
