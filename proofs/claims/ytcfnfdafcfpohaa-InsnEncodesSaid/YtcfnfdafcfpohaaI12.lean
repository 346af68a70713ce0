/- Layer 3: decoded, encoded, by formats (the last part printed by g12.py): plain laws. -/
import Derived.Test.YtcfnfdafcfpohaaI11
namespace Go.Proofs.Ytcfnfdafcfpohaa
open Go.Am
set_option linter.unusedSimpArgs false
set_option linter.unusedVariables false
noncomputable section

def encV (v : BitVec 32) (f rd r1 r2 im cs : Int) (aq rl : Bool) : BitVec 32 :=
  v ||| (layE f (BitVec.ofInt 64 im) ||| (BitVec.ofInt 32 rd <<< 7) ||| (BitVec.ofInt 32 r1 <<< 15) ||| (BitVec.ofInt 32 r2 <<< 20) ||| (BitVec.ofInt 32 cs <<< 20)) ||| (if aq = true then 67108864#32 else 0#32) ||| (if rl = true then 33554432#32 else 0#32)
theorem o5 (x : BitVec 5) : BitVec.ofInt 32 (x.toNat : Int) = x.setWidth 32 := by
  apply BitVec.eq_of_toNat_eq; rw [BitVec.toNat_ofInt, BitVec.toNat_setWidth]; have := x.isLt; omega
theorem o12 (x : BitVec 12) : BitVec.ofInt 32 (x.toNat : Int) = x.setWidth 32 := by
  apply BitVec.eq_of_toNat_eq; rw [BitVec.toNat_ofInt, BitVec.toNat_setWidth]; have := x.isLt; omega
theorem oz : BitVec.ofInt 32 0 = 0#32 := rfl
theorem r5 {n : Int} (h : 0 ≤ n ∧ n ≤ 31) : ∃ x : BitVec 5, n = (x.toNat : Int) := ⟨BitVec.ofNat 5 n.toNat, by rw [BitVec.toNat_ofNat]; omega⟩
theorem r12 {n : Int} (h : 0 ≤ n ∧ n ≤ 4095) : ∃ x : BitVec 12, n = (x.toNat : Int) := ⟨BitVec.ofNat 12 n.toNat, by rw [BitVec.toNat_ofNat]; omega⟩
theorem fldC (b : BitVec 32) : (cutU (b.setWidth 64) 20 12).toInt = (((b >>> 20).setWidth 12).toNat : Int) := by
  have := cut_b b 20 12 (by omega)
  rw [show ((12 : Nat) : Int) = 12 from rfl, show ((20 : Nat) : Int) = 20 from rfl] at this
  rw [this, toI_zx _ (by decide)]
theorem fldA (b : BitVec 32) (a : Nat) (h : a < 32) : decide ((cutU (b.setWidth 64) a 1).toInt = 1) = b.getLsbD a := by
  have := cut_b b a 1 (by omega)
  rw [show ((1 : Nat) : Int) = 1 from rfl] at this
  rw [this, toI_zx _ (by decide)]
  have e : (b >>> a).setWidth 1 = BitVec.ofBool (b.getLsbD a) := by
    apply BitVec.eq_of_getLsbD_eq; intro i hi
    obtain rfl : i = 0 := by omega
    simp [BitVec.getLsbD_setWidth, BitVec.getLsbD_ushiftRight]
  rw [e]
  cases b.getLsbD a <;> decide
theorem check_iff {f rd r1 r2 im cs : Int} {aq rl : Bool} : (checkT f rd r1 r2 im cs aq rl = 0) = (f ≠ 0 ∧ formB f rd r1 r2 im cs aq rl = false ∧ (0 ≤ rd ∧ rd ≤ 31) ∧ (0 ≤ r1 ∧ r1 ≤ 31) ∧ (0 ≤ r2 ∧ r2 ≤ 31) ∧ (0 ≤ cs ∧ cs ≤ 4095) ∧ fitsT f im = true) := by
  unfold checkT
  have b : ∀ r, (badR r = true) = (r < 0 ∨ 31 < r) := fun r => by simp [badR]
  simp only [b]
  apply propext
  split
  · simp [*]
  split
  · simp [*]
  split
  · simp; omega
  split
  · simp; intros; rcases ‹cs < 0 ∨ 4095 < cs ∨ fitsT f im = false› with h | h | h
    · omega
    · omega
    · exact h
  · rename_i h1 h2 h3 h4
    have h5 : formB f rd r1 r2 im cs aq rl = false := by simpa using h2
    have h6 : fitsT f im = true := by cases h : fitsT f im <;> simp_all
    simp only [true_iff]
    exact ⟨h1, h5, by omega, by omega, by omega, by omega, h6⟩
/-- numbers that fit -/
theorem y12 {k : Int} (h : -2048 ≤ k) (h' : k ≤ 2047) : ∃ y : BitVec 12, k = y.toInt := ⟨BitVec.ofInt 12 k, by rw [BitVec.toInt_ofInt, Int.bmod_eq_of_le] <;> omega⟩
theorem y20 {k : Int} (h : -524288 ≤ k) (h' : k ≤ 524287) : ∃ y : BitVec 20, k = y.toInt := ⟨BitVec.ofInt 20 k, by rw [BitVec.toInt_ofInt, Int.bmod_eq_of_le] <;> omega⟩
theorem b12 (y : BitVec 12) : -2048 ≤ y.toInt ∧ y.toInt ≤ 2047 := by
  have a := BitVec.toInt_lt (x := y); have b := BitVec.le_toInt (x := y); simp at a b; omega
theorem b20 (y : BitVec 20) : -524288 ≤ y.toInt ∧ y.toInt ≤ 524287 := by
  have a := BitVec.toInt_lt (x := y); have b := BitVec.le_toInt (x := y); simp at a b; omega
theorem low1 {k : Int} : (w64 ((BitVec.ofInt 64 k &&& 1#64).toNat) = 0) = (k % 2 = 0) := by
  have e := Nat.and_two_pow_sub_one_eq_mod (BitVec.ofInt 64 k).toNat 1
  rw [BitVec.toNat_and, show (1#64).toNat = 2 ^ 1 - 1 from rfl, e, w64_of (by omega), BitVec.toNat_ofInt]
  apply propext
  omega
theorem low12 {k : Int} : (w64 ((BitVec.ofInt 64 k &&& 4095#64).toNat) = 0) = (k % 4096 = 0) := by
  have e := Nat.and_two_pow_sub_one_eq_mod (BitVec.ofInt 64 k).toNat 12
  rw [BitVec.toNat_and, show (4095#64).toNat = 2 ^ 12 - 1 from rfl, e, w64_of (by omega), BitVec.toNat_ofInt]
  apply propext
  omega
theorem f4 {n : Int} : fitsT 4 n = (decide (-4096 ≤ n) && (decide (n ≤ 4095) && decide (w64 ((BitVec.ofInt 64 n &&& 1#64).toNat) = 0))) := rfl
theorem f5 {n : Int} : fitsT 5 n = (decide (IntKind.i32.wrap n = n) && decide (w64 ((BitVec.ofInt 64 n &&& 4095#64).toNat) = 0)) := rfl
theorem f6 {n : Int} : fitsT 6 n = (decide (-1048576 ≤ n) && (decide (n < 1048576) && decide (w64 ((BitVec.ofInt 64 n &&& 1#64).toNat) = 0))) := rfl
theorem fitsI {n : Int} (h : fitsT 2 n = true) : ∃ y : BitVec 12, n = y.toInt := by
  simp [fitsT] at h
  exact y12 h.1 h.2
theorem fitsS {n : Int} (h : fitsT 3 n = true) : ∃ y : BitVec 12, n = y.toInt := by
  simp [fitsT] at h
  exact y12 h.1 h.2
theorem fitsB {n : Int} (h : fitsT 4 n = true) : ∃ y : BitVec 12, n = y.toInt * 2 := by
  simp only [f4, low1, low12, Bool.and_eq_true, decide_eq_true_eq] at h
  obtain ⟨y, hy⟩ := y12 (k := n / 2) (by omega) (by omega)
  exact ⟨y, by omega⟩
theorem fitsU {n : Int} (h : fitsT 5 n = true) : ∃ y : BitVec 20, n = y.toInt * 4096 := by
  simp only [f5, low1, low12, Bool.and_eq_true, decide_eq_true_eq] at h
  have w : -2147483648 ≤ n ∧ n ≤ 2147483647 := by
    have := h.1
    simp only [IntKind.wrap, IntKind.bits, IntKind.signed] at this
    simp at this
    omega
  obtain ⟨y, hy⟩ := y20 (k := n / 4096) (by omega) (by omega)
  exact ⟨y, by omega⟩
theorem fitsJ {n : Int} (h : fitsT 6 n = true) : ∃ y : BitVec 20, n = y.toInt * 2 := by
  simp only [f6, low1, low12, Bool.and_eq_true, decide_eq_true_eq] at h
  obtain ⟨y, hy⟩ := y20 (k := n / 2) (by omega) (by omega)
  exact ⟨y, by omega⟩
theorem fitsH {n : Int} (h : fitsT 7 n = true) : ∃ y : BitVec 6, n = (y.toNat : Int) := by
  simp [fitsT] at h
  exact ⟨BitVec.ofNat 6 n.toNat, by rw [BitVec.toNat_ofNat]; omega⟩
theorem fitsW {n : Int} (h : fitsT 8 n = true) : ∃ y : BitVec 5, n = (y.toNat : Int) := by
  simp [fitsT] at h
  exact ⟨BitVec.ofNat 5 n.toNat, by rw [BitVec.toNat_ofNat]; omega⟩
theorem fitsI' (y : BitVec 12) : fitsT 2 y.toInt = true := by
  have := b12 y; simp [fitsT]; omega
theorem fitsS' (y : BitVec 12) : fitsT 3 y.toInt = true := by
  have := b12 y; simp [fitsT]; omega
theorem fitsB' (y : BitVec 12) : fitsT 4 (y.toInt * 2) = true := by
  have := b12 y; simp only [f4, low1, low12, Bool.and_eq_true, decide_eq_true_eq]; omega
theorem fitsU' (y : BitVec 20) : fitsT 5 (y.toInt * 4096) = true := by
  have := b20 y; simp only [f5, low1, low12, Bool.and_eq_true, decide_eq_true_eq]
  simp only [IntKind.wrap, IntKind.bits, IntKind.signed]
  simp; omega
theorem fitsJ' (y : BitVec 20) : fitsT 6 (y.toInt * 2) = true := by
  have := b20 y; simp only [f6, low1, low12, Bool.and_eq_true, decide_eq_true_eq]; omega
theorem fitsH' (y : BitVec 6) : fitsT 7 (y.toNat : Int) = true := by
  have := y.isLt; simp [fitsT]; omega
theorem fitsW' (y : BitVec 5) : fitsT 8 (y.toNat : Int) = true := by
  have := y.isLt; simp [fitsT]; omega
/-- bits of numbers -/
theorem lyC (n : BitVec 64) (a s t : Nat) (h : a + s ≤ 64) (ht : t ≤ 64) : layC n a s t = ((((n >>> a).setWidth s).setWidth 64 <<< t).setWidth 32).toNat := by
  rw [layB _ _ _ _ (by omega), cut_w _ _ _ h]
theorem x12 (y : BitVec 12) : BitVec.ofInt 64 y.toInt = y.signExtend 64 := rfl
theorem x12' (y : BitVec 12) : BitVec.ofInt 64 (y.toInt * 2) = y.signExtend 64 <<< 1 := (shl_of _ 1).symm
theorem x20' (y : BitVec 20) : BitVec.ofInt 64 (y.toInt * 2) = y.signExtend 64 <<< 1 := (shl_of _ 1).symm
theorem x20u (y : BitVec 20) : BitVec.ofInt 64 (y.toInt * 4096) = y.signExtend 64 <<< 12 := (shl_of _ 12).symm
theorem x6 (x : BitVec 6) : BitVec.ofInt 64 (x.toNat : Int) = x.setWidth 64 := by
  apply BitVec.eq_of_toNat_eq; rw [BitVec.toNat_ofInt, BitVec.toNat_setWidth]; have := x.isLt; omega
theorem x5 (x : BitVec 5) : BitVec.ofInt 64 (x.toNat : Int) = x.setWidth 64 := by
  apply BitVec.eq_of_toNat_eq; rw [BitVec.toNat_ofInt, BitVec.toNat_setWidth]; have := x.isLt; omega
theorem lyEI (y : BitVec 12) : layE 2 (BitVec.ofInt 64 y.toInt) = lyI y := by
  unfold layE
  rw [x12, show layT 2 (y.signExtend 64) = layC (y.signExtend 64) (0 : Nat) (12 : Nat) (20 : Nat) from rfl, lyC _ _ _ _ (by decide) (by decide), o32]
  apply all32 <;> simp [lyI, BitVec.getLsbD_signExtend, BitVec.getElem_signExtend]
theorem lyES (y : BitVec 12) : layE 3 (BitVec.ofInt 64 y.toInt) = lyS y := by
  unfold layE
  rw [x12, show layT 3 (y.signExtend 64) = orK (layC (y.signExtend 64) (5 : Nat) (7 : Nat) (25 : Nat)) (layC (y.signExtend 64) (0 : Nat) (5 : Nat) (7 : Nat)) from rfl, lyC _ _ _ _ (by decide) (by decide), lyC _ _ _ _ (by decide) (by decide), orB, o32]
  apply all32 <;> simp [lyS, BitVec.getLsbD_signExtend, BitVec.getElem_signExtend]
theorem lyEB (y : BitVec 12) : layE 4 (BitVec.ofInt 64 (y.toInt * 2)) = lyB y := by
  unfold layE
  rw [x12', show layT 4 (y.signExtend 64 <<< 1) = orK (orK (orK (layC (y.signExtend 64 <<< 1) (12 : Nat) (1 : Nat) (31 : Nat)) (layC (y.signExtend 64 <<< 1) (5 : Nat) (6 : Nat) (25 : Nat))) (layC (y.signExtend 64 <<< 1) (1 : Nat) (4 : Nat) (8 : Nat))) (layC (y.signExtend 64 <<< 1) (11 : Nat) (1 : Nat) (7 : Nat)) from rfl, lyC _ _ _ _ (by decide) (by decide), lyC _ _ _ _ (by decide) (by decide), lyC _ _ _ _ (by decide) (by decide), lyC _ _ _ _ (by decide) (by decide), orB, orB, orB, o32]
  apply all32 <;> simp [lyB, BitVec.getLsbD_signExtend, BitVec.getElem_signExtend]
theorem lyEU (y : BitVec 20) : layE 5 (BitVec.ofInt 64 (y.toInt * 4096)) = lyU y := by
  unfold layE
  rw [x20u, show layT 5 (y.signExtend 64 <<< 12) = layC (y.signExtend 64 <<< 12) (12 : Nat) (20 : Nat) (12 : Nat) from rfl, lyC _ _ _ _ (by decide) (by decide), o32]
  apply all32 <;> simp [lyU, BitVec.getLsbD_signExtend, BitVec.getElem_signExtend]
theorem lyEJ (y : BitVec 20) : layE 6 (BitVec.ofInt 64 (y.toInt * 2)) = lyJ y := by
  unfold layE
  rw [x20', show layT 6 (y.signExtend 64 <<< 1) = orK (orK (orK (layC (y.signExtend 64 <<< 1) (20 : Nat) (1 : Nat) (31 : Nat)) (layC (y.signExtend 64 <<< 1) (1 : Nat) (10 : Nat) (21 : Nat))) (layC (y.signExtend 64 <<< 1) (11 : Nat) (1 : Nat) (20 : Nat))) (layC (y.signExtend 64 <<< 1) (12 : Nat) (8 : Nat) (12 : Nat)) from rfl, lyC _ _ _ _ (by decide) (by decide), lyC _ _ _ _ (by decide) (by decide), lyC _ _ _ _ (by decide) (by decide), lyC _ _ _ _ (by decide) (by decide), orB, orB, orB, o32]
  apply all32 <;> simp [lyJ, BitVec.getLsbD_signExtend, BitVec.getElem_signExtend]
theorem lyEH (y : BitVec 6) : layE 7 (BitVec.ofInt 64 (y.toNat : Int)) = lyH y := by
  unfold layE
  rw [x6, show layT 7 (y.setWidth 64) = layC (y.setWidth 64) (0 : Nat) (6 : Nat) (20 : Nat) from rfl, lyC _ _ _ _ (by decide) (by decide), o32]
  apply all32 <;> simp [lyH]
theorem lyEW (y : BitVec 5) : layE 8 (BitVec.ofInt 64 (y.toNat : Int)) = lyW y := by
  unfold layE
  rw [x5, show layT 8 (y.setWidth 64) = layC (y.setWidth 64) (0 : Nat) (5 : Nat) (20 : Nat) from rfl, lyC _ _ _ _ (by decide) (by decide), o32]
  apply all32 <;> simp [lyW]
theorem lyE1 {n : BitVec 64} : layE 1 n = 0#32 := rfl
theorem lyE9 {n : BitVec 64} : layE 9 n = 0#32 := rfl
theorem lyE10 {n : BitVec 64} : layE 10 n = 0#32 := rfl
theorem lyE11 {n : BitVec 64} : layE 11 n = 0#32 := rfl
theorem lyE12 {n : BitVec 64} : layE 12 n = 0#32 := rfl
theorem lyE13 {n : BitVec 64} : layE 13 n = 0#32 := rfl
theorem lyE14 {n : BitVec 64} : layE 14 n = 0#32 := rfl
theorem xeLz (v : BitVec 32) (p q : Bool) (d s : BitVec 5) (hz : v &&& 32505856#32 = 0#32) : rf ((v ||| (d.setWidth 32 <<< 7) ||| (s.setWidth 32 <<< 15)) ||| (if p = true then 67108864#32 else 0#32) ||| (if q = true then 33554432#32 else 0#32)) 20 = 0#5 := by
  have z0 := congrArg (fun x => BitVec.getLsbD x 20) hz
  have z1 := congrArg (fun x => BitVec.getLsbD x 21) hz
  have z2 := congrArg (fun x => BitVec.getLsbD x 22) hz
  have z3 := congrArg (fun x => BitVec.getLsbD x 23) hz
  have z4 := congrArg (fun x => BitVec.getLsbD x 24) hz
  simp at z0 z1 z2 z3 z4
  cases p <;> cases q <;> apply all5 <;> simp [rf, z0, z1, z2, z3, z4]
theorem fld7 (b : BitVec 32) : (cutU (b.setWidth 64) 7 5).toInt = ((rf b 7).toNat : Int) := fld b 7 (by decide)
theorem fld15 (b : BitVec 32) : (cutU (b.setWidth 64) 15 5).toInt = ((rf b 15).toNat : Int) := fld b 15 (by decide)
theorem fld20 (b : BitVec 32) : (cutU (b.setWidth 64) 20 5).toInt = ((rf b 20).toNat : Int) := fld b 20 (by decide)
theorem fldA26 (b : BitVec 32) : decide ((cutU (b.setWidth 64) 26 1).toInt = 1) = b.getLsbD 26 := fldA b 26 (by decide)
theorem fldA25 (b : BitVec 32) : decide ((cutU (b.setWidth 64) 25 1).toInt = 1) = b.getLsbD 25 := fldA b 25 (by decide)
theorem zL (b : BitVec 32) (hz : b &&& 4193284223#32 &&& 32505856#32 = 0#32) : rf b 20 = 0#5 := by
  have z0 := congrArg (fun x => BitVec.getLsbD x 20) hz
  have z1 := congrArg (fun x => BitVec.getLsbD x 21) hz
  have z2 := congrArg (fun x => BitVec.getLsbD x 22) hz
  have z3 := congrArg (fun x => BitVec.getLsbD x 23) hz
  have z4 := congrArg (fun x => BitVec.getLsbD x 24) hz
  simp at z0 z1 z2 z3 z4
  apply all5 <;> simp [rf, z0, z1, z2, z3, z4]

theorem de1 {op : Int} (ho : op ≠ 0) {b v : BitVec 32} (h : b &&& 4261441663#32 = v) : ∃ rd r1 r2 im cs aq rl, decC op 1 (b.setWidth 64) = inC op rd r1 r2 im cs aq rl ∧ checkT 1 rd r1 r2 im cs aq rl = 0 ∧ encV v 1 rd r1 r2 im cs aq rl = b := by
  refine ⟨((rf b 7).toNat : Int), ((rf b 15).toNat : Int), ((rf b 20).toNat : Int), 0, 0, false, false, ?_, ?_, ?_⟩
  · unfold decC; rw [if_neg ho]; simp [fld7 b, fld15 b, fld20 b, immT]
  · rw [check_iff]; have := (rf b 7).isLt; have := (rf b 15).isLt; have := (rf b 20).isLt; exact ⟨by decide, by simp [formB, fdT], by omega, by omega, by omega, by omega, rfl⟩
  · subst h; unfold encV; rw [lyE1]
    have k := xdR b
    simp only [o5, o12, oz, BitVec.zero_or, BitVec.or_zero, BitVec.zero_shiftLeft, BitVec.or_assoc, Bool.false_eq_true, if_false] at k ⊢
    exact k
theorem en1 {op : Int} (ho : op ≠ 0) {v : BitVec 32} (hv : v &&& 4261441663#32 = v) {rd r1 r2 im cs : Int} {aq rl : Bool} (h : checkT 1 rd r1 r2 im cs aq rl = 0) : encV v 1 rd r1 r2 im cs aq rl &&& 4261441663#32 = v ∧ decC op 1 ((encV v 1 rd r1 r2 im cs aq rl).setWidth 64) = inC op rd r1 r2 im cs aq rl := by
  rw [check_iff] at h
  obtain ⟨_, hform, hd, hs, ht, hc, hf⟩ := h
  simp [formB, fdT] at hform
  obtain ⟨z_im, z_cs, z_aq, z_rl⟩ := hform
  subst z_im
  subst z_cs
  subst z_aq
  subst z_rl
  obtain ⟨d, rfl⟩ := r5 hd
  obtain ⟨s, rfl⟩ := r5 hs
  obtain ⟨t, rfl⟩ := r5 ht
  have e : encV v 1 (d.toNat : Int) (s.toNat : Int) (t.toNat : Int) 0 0 false false = v ||| (d.setWidth 32 <<< 7) ||| (s.setWidth 32 <<< 15) ||| (t.setWidth 32 <<< 20) := by
    unfold encV; rw [lyE1]
    simp only [o5, o12, oz, BitVec.zero_or, BitVec.or_zero, BitVec.zero_shiftLeft, BitVec.or_assoc, Bool.false_eq_true, if_false]
  have k0 := xeR0 v d s t
  have k1 := xeR1 v d s t
  have k2 := xeR2 v d s t
  have k3 := xeR3 v d s t
  rw [hv] at k0 k1 k2 k3
  generalize v ||| (d.setWidth 32 <<< 7) ||| (s.setWidth 32 <<< 15) ||| (t.setWidth 32 <<< 20) = E at e k0 k1 k2 k3
  rw [e]
  refine ⟨k0, ?_⟩
  unfold decC; rw [if_neg ho]; simp [fld7, fld15, fld20, immT, k1, k2, k3]
theorem de2 {op : Int} (ho : op ≠ 0) {b v : BitVec 32} (h : b &&& 28799#32 = v) : ∃ rd r1 r2 im cs aq rl, decC op 2 (b.setWidth 64) = inC op rd r1 r2 im cs aq rl ∧ checkT 2 rd r1 r2 im cs aq rl = 0 ∧ encV v 2 rd r1 r2 im cs aq rl = b := by
  refine ⟨((rf b 7).toNat : Int), ((rf b 15).toNat : Int), 0, (getI b).toInt, 0, false, false, ?_, ?_, ?_⟩
  · unfold decC; rw [if_neg ho]; simp [fld7 b, fld15 b, immI b]
  · rw [check_iff]; have := (rf b 7).isLt; have := (rf b 15).isLt; exact ⟨by decide, by simp [formB, fdT], by omega, by omega, by omega, by omega, fitsI' _⟩
  · subst h; unfold encV; rw [lyEI]
    have k := xdI b
    simp only [o5, o12, oz, BitVec.zero_or, BitVec.or_zero, BitVec.zero_shiftLeft, BitVec.or_assoc, Bool.false_eq_true, if_false] at k ⊢
    exact k
theorem en2 {op : Int} (ho : op ≠ 0) {v : BitVec 32} (hv : v &&& 28799#32 = v) {rd r1 r2 im cs : Int} {aq rl : Bool} (h : checkT 2 rd r1 r2 im cs aq rl = 0) : encV v 2 rd r1 r2 im cs aq rl &&& 28799#32 = v ∧ decC op 2 ((encV v 2 rd r1 r2 im cs aq rl).setWidth 64) = inC op rd r1 r2 im cs aq rl := by
  rw [check_iff] at h
  obtain ⟨_, hform, hd, hs, ht, hc, hf⟩ := h
  simp [formB, fdT] at hform
  obtain ⟨z_r2, z_cs, z_aq, z_rl⟩ := hform
  subst z_r2
  subst z_cs
  subst z_aq
  subst z_rl
  obtain ⟨d, rfl⟩ := r5 hd
  obtain ⟨s, rfl⟩ := r5 hs
  obtain ⟨y, rfl⟩ := fitsI hf
  have e : encV v 2 (d.toNat : Int) (s.toNat : Int) 0 y.toInt 0 false false = v ||| lyI y ||| (d.setWidth 32 <<< 7) ||| (s.setWidth 32 <<< 15) := by
    unfold encV; rw [lyEI]
    simp only [o5, o12, oz, BitVec.zero_or, BitVec.or_zero, BitVec.zero_shiftLeft, BitVec.or_assoc, Bool.false_eq_true, if_false]
  have k0 := xeI0 v d s y
  have k1 := xeI1 v d s y
  have k2 := xeI2 v d s y
  have k3 := xeI3 v d s y
  rw [hv] at k0 k1 k2 k3
  generalize v ||| lyI y ||| (d.setWidth 32 <<< 7) ||| (s.setWidth 32 <<< 15) = E at e k0 k1 k2 k3
  rw [e]
  refine ⟨k0, ?_⟩
  unfold decC; rw [if_neg ho]; simp [fld7, fld15, immI, k1, k2, k3]
theorem de3 {op : Int} (ho : op ≠ 0) {b v : BitVec 32} (h : b &&& 28799#32 = v) : ∃ rd r1 r2 im cs aq rl, decC op 3 (b.setWidth 64) = inC op rd r1 r2 im cs aq rl ∧ checkT 3 rd r1 r2 im cs aq rl = 0 ∧ encV v 3 rd r1 r2 im cs aq rl = b := by
  refine ⟨0, ((rf b 15).toNat : Int), ((rf b 20).toNat : Int), (getS b).toInt, 0, false, false, ?_, ?_, ?_⟩
  · unfold decC; rw [if_neg ho]; simp [fld15 b, fld20 b, immS b]
  · rw [check_iff]; have := (rf b 15).isLt; have := (rf b 20).isLt; exact ⟨by decide, by simp [formB, fdT], by omega, by omega, by omega, by omega, fitsS' _⟩
  · subst h; unfold encV; rw [lyES]
    have k := xdS b
    simp only [o5, o12, oz, BitVec.zero_or, BitVec.or_zero, BitVec.zero_shiftLeft, BitVec.or_assoc, Bool.false_eq_true, if_false] at k ⊢
    exact k
theorem en3 {op : Int} (ho : op ≠ 0) {v : BitVec 32} (hv : v &&& 28799#32 = v) {rd r1 r2 im cs : Int} {aq rl : Bool} (h : checkT 3 rd r1 r2 im cs aq rl = 0) : encV v 3 rd r1 r2 im cs aq rl &&& 28799#32 = v ∧ decC op 3 ((encV v 3 rd r1 r2 im cs aq rl).setWidth 64) = inC op rd r1 r2 im cs aq rl := by
  rw [check_iff] at h
  obtain ⟨_, hform, hd, hs, ht, hc, hf⟩ := h
  simp [formB, fdT] at hform
  obtain ⟨z_rd, z_cs, z_aq, z_rl⟩ := hform
  subst z_rd
  subst z_cs
  subst z_aq
  subst z_rl
  obtain ⟨s, rfl⟩ := r5 hs
  obtain ⟨t, rfl⟩ := r5 ht
  obtain ⟨y, rfl⟩ := fitsS hf
  have e : encV v 3 0 (s.toNat : Int) (t.toNat : Int) y.toInt 0 false false = v ||| lyS y ||| (s.setWidth 32 <<< 15) ||| (t.setWidth 32 <<< 20) := by
    unfold encV; rw [lyES]
    simp only [o5, o12, oz, BitVec.zero_or, BitVec.or_zero, BitVec.zero_shiftLeft, BitVec.or_assoc, Bool.false_eq_true, if_false]
  have k0 := xeS0 v s t y
  have k1 := xeS1 v s t y
  have k2 := xeS2 v s t y
  have k3 := xeS3 v s t y
  rw [hv] at k0 k1 k2 k3
  generalize v ||| lyS y ||| (s.setWidth 32 <<< 15) ||| (t.setWidth 32 <<< 20) = E at e k0 k1 k2 k3
  rw [e]
  refine ⟨k0, ?_⟩
  unfold decC; rw [if_neg ho]; simp [fld15, fld20, immS, k1, k2, k3]
theorem de4 {op : Int} (ho : op ≠ 0) {b v : BitVec 32} (h : b &&& 28799#32 = v) : ∃ rd r1 r2 im cs aq rl, decC op 4 (b.setWidth 64) = inC op rd r1 r2 im cs aq rl ∧ checkT 4 rd r1 r2 im cs aq rl = 0 ∧ encV v 4 rd r1 r2 im cs aq rl = b := by
  refine ⟨0, ((rf b 15).toNat : Int), ((rf b 20).toNat : Int), (getB b).toInt * 2, 0, false, false, ?_, ?_, ?_⟩
  · unfold decC; rw [if_neg ho]; simp [fld15 b, fld20 b, immB b]
  · rw [check_iff]; have := (rf b 15).isLt; have := (rf b 20).isLt; exact ⟨by decide, by simp [formB, fdT], by omega, by omega, by omega, by omega, fitsB' _⟩
  · subst h; unfold encV; rw [lyEB]
    have k := xdB b
    simp only [o5, o12, oz, BitVec.zero_or, BitVec.or_zero, BitVec.zero_shiftLeft, BitVec.or_assoc, Bool.false_eq_true, if_false] at k ⊢
    exact k
theorem en4 {op : Int} (ho : op ≠ 0) {v : BitVec 32} (hv : v &&& 28799#32 = v) {rd r1 r2 im cs : Int} {aq rl : Bool} (h : checkT 4 rd r1 r2 im cs aq rl = 0) : encV v 4 rd r1 r2 im cs aq rl &&& 28799#32 = v ∧ decC op 4 ((encV v 4 rd r1 r2 im cs aq rl).setWidth 64) = inC op rd r1 r2 im cs aq rl := by
  rw [check_iff] at h
  obtain ⟨_, hform, hd, hs, ht, hc, hf⟩ := h
  simp [formB, fdT] at hform
  obtain ⟨z_rd, z_cs, z_aq, z_rl⟩ := hform
  subst z_rd
  subst z_cs
  subst z_aq
  subst z_rl
  obtain ⟨s, rfl⟩ := r5 hs
  obtain ⟨t, rfl⟩ := r5 ht
  obtain ⟨y, rfl⟩ := fitsB hf
  have e : encV v 4 0 (s.toNat : Int) (t.toNat : Int) (y.toInt * 2) 0 false false = v ||| lyB y ||| (s.setWidth 32 <<< 15) ||| (t.setWidth 32 <<< 20) := by
    unfold encV; rw [lyEB]
    simp only [o5, o12, oz, BitVec.zero_or, BitVec.or_zero, BitVec.zero_shiftLeft, BitVec.or_assoc, Bool.false_eq_true, if_false]
  have k0 := xeB0 v s t y
  have k1 := xeB1 v s t y
  have k2 := xeB2 v s t y
  have k3 := xeB3 v s t y
  rw [hv] at k0 k1 k2 k3
  generalize v ||| lyB y ||| (s.setWidth 32 <<< 15) ||| (t.setWidth 32 <<< 20) = E at e k0 k1 k2 k3
  rw [e]
  refine ⟨k0, ?_⟩
  unfold decC; rw [if_neg ho]; simp [fld15, fld20, immB, k1, k2, k3]
theorem de5 {op : Int} (ho : op ≠ 0) {b v : BitVec 32} (h : b &&& 127#32 = v) : ∃ rd r1 r2 im cs aq rl, decC op 5 (b.setWidth 64) = inC op rd r1 r2 im cs aq rl ∧ checkT 5 rd r1 r2 im cs aq rl = 0 ∧ encV v 5 rd r1 r2 im cs aq rl = b := by
  refine ⟨((rf b 7).toNat : Int), 0, 0, (getU b).toInt * 4096, 0, false, false, ?_, ?_, ?_⟩
  · unfold decC; rw [if_neg ho]; simp [fld7 b, immU b]
  · rw [check_iff]; have := (rf b 7).isLt; exact ⟨by decide, by simp [formB, fdT], by omega, by omega, by omega, by omega, fitsU' _⟩
  · subst h; unfold encV; rw [lyEU]
    have k := xdU b
    simp only [o5, o12, oz, BitVec.zero_or, BitVec.or_zero, BitVec.zero_shiftLeft, BitVec.or_assoc, Bool.false_eq_true, if_false] at k ⊢
    exact k
theorem en5 {op : Int} (ho : op ≠ 0) {v : BitVec 32} (hv : v &&& 127#32 = v) {rd r1 r2 im cs : Int} {aq rl : Bool} (h : checkT 5 rd r1 r2 im cs aq rl = 0) : encV v 5 rd r1 r2 im cs aq rl &&& 127#32 = v ∧ decC op 5 ((encV v 5 rd r1 r2 im cs aq rl).setWidth 64) = inC op rd r1 r2 im cs aq rl := by
  rw [check_iff] at h
  obtain ⟨_, hform, hd, hs, ht, hc, hf⟩ := h
  simp [formB, fdT] at hform
  obtain ⟨z_r1, z_r2, z_cs, z_aq, z_rl⟩ := hform
  subst z_r1
  subst z_r2
  subst z_cs
  subst z_aq
  subst z_rl
  obtain ⟨d, rfl⟩ := r5 hd
  obtain ⟨y, rfl⟩ := fitsU hf
  have e : encV v 5 (d.toNat : Int) 0 0 (y.toInt * 4096) 0 false false = v ||| lyU y ||| (d.setWidth 32 <<< 7) := by
    unfold encV; rw [lyEU]
    simp only [o5, o12, oz, BitVec.zero_or, BitVec.or_zero, BitVec.zero_shiftLeft, BitVec.or_assoc, Bool.false_eq_true, if_false]
  have k0 := xeU0 v d y
  have k1 := xeU1 v d y
  have k2 := xeU2 v d y
  rw [hv] at k0 k1 k2
  generalize v ||| lyU y ||| (d.setWidth 32 <<< 7) = E at e k0 k1 k2
  rw [e]
  refine ⟨k0, ?_⟩
  unfold decC; rw [if_neg ho]; simp [fld7, immU, k1, k2]
theorem de6 {op : Int} (ho : op ≠ 0) {b v : BitVec 32} (h : b &&& 127#32 = v) : ∃ rd r1 r2 im cs aq rl, decC op 6 (b.setWidth 64) = inC op rd r1 r2 im cs aq rl ∧ checkT 6 rd r1 r2 im cs aq rl = 0 ∧ encV v 6 rd r1 r2 im cs aq rl = b := by
  refine ⟨((rf b 7).toNat : Int), 0, 0, (getJ b).toInt * 2, 0, false, false, ?_, ?_, ?_⟩
  · unfold decC; rw [if_neg ho]; simp [fld7 b, immJ b]
  · rw [check_iff]; have := (rf b 7).isLt; exact ⟨by decide, by simp [formB, fdT], by omega, by omega, by omega, by omega, fitsJ' _⟩
  · subst h; unfold encV; rw [lyEJ]
    have k := xdJ b
    simp only [o5, o12, oz, BitVec.zero_or, BitVec.or_zero, BitVec.zero_shiftLeft, BitVec.or_assoc, Bool.false_eq_true, if_false] at k ⊢
    exact k
theorem en6 {op : Int} (ho : op ≠ 0) {v : BitVec 32} (hv : v &&& 127#32 = v) {rd r1 r2 im cs : Int} {aq rl : Bool} (h : checkT 6 rd r1 r2 im cs aq rl = 0) : encV v 6 rd r1 r2 im cs aq rl &&& 127#32 = v ∧ decC op 6 ((encV v 6 rd r1 r2 im cs aq rl).setWidth 64) = inC op rd r1 r2 im cs aq rl := by
  rw [check_iff] at h
  obtain ⟨_, hform, hd, hs, ht, hc, hf⟩ := h
  simp [formB, fdT] at hform
  obtain ⟨z_r1, z_r2, z_cs, z_aq, z_rl⟩ := hform
  subst z_r1
  subst z_r2
  subst z_cs
  subst z_aq
  subst z_rl
  obtain ⟨d, rfl⟩ := r5 hd
  obtain ⟨y, rfl⟩ := fitsJ hf
  have e : encV v 6 (d.toNat : Int) 0 0 (y.toInt * 2) 0 false false = v ||| lyJ y ||| (d.setWidth 32 <<< 7) := by
    unfold encV; rw [lyEJ]
    simp only [o5, o12, oz, BitVec.zero_or, BitVec.or_zero, BitVec.zero_shiftLeft, BitVec.or_assoc, Bool.false_eq_true, if_false]
  have k0 := xeJ0 v d y
  have k1 := xeJ1 v d y
  have k2 := xeJ2 v d y
  rw [hv] at k0 k1 k2
  generalize v ||| lyJ y ||| (d.setWidth 32 <<< 7) = E at e k0 k1 k2
  rw [e]
  refine ⟨k0, ?_⟩
  unfold decC; rw [if_neg ho]; simp [fld7, immJ, k1, k2]
theorem de7 {op : Int} (ho : op ≠ 0) {b v : BitVec 32} (h : b &&& 4227887231#32 = v) : ∃ rd r1 r2 im cs aq rl, decC op 7 (b.setWidth 64) = inC op rd r1 r2 im cs aq rl ∧ checkT 7 rd r1 r2 im cs aq rl = 0 ∧ encV v 7 rd r1 r2 im cs aq rl = b := by
  refine ⟨((rf b 7).toNat : Int), ((rf b 15).toNat : Int), 0, ((getH b).toNat : Int), 0, false, false, ?_, ?_, ?_⟩
  · unfold decC; rw [if_neg ho]; simp [fld7 b, fld15 b, immH b]
  · rw [check_iff]; have := (rf b 7).isLt; have := (rf b 15).isLt; exact ⟨by decide, by simp [formB, fdT], by omega, by omega, by omega, by omega, fitsH' _⟩
  · subst h; unfold encV; rw [lyEH]
    have k := xdH b
    simp only [o5, o12, oz, BitVec.zero_or, BitVec.or_zero, BitVec.zero_shiftLeft, BitVec.or_assoc, Bool.false_eq_true, if_false] at k ⊢
    exact k
theorem en7 {op : Int} (ho : op ≠ 0) {v : BitVec 32} (hv : v &&& 4227887231#32 = v) {rd r1 r2 im cs : Int} {aq rl : Bool} (h : checkT 7 rd r1 r2 im cs aq rl = 0) : encV v 7 rd r1 r2 im cs aq rl &&& 4227887231#32 = v ∧ decC op 7 ((encV v 7 rd r1 r2 im cs aq rl).setWidth 64) = inC op rd r1 r2 im cs aq rl := by
  rw [check_iff] at h
  obtain ⟨_, hform, hd, hs, ht, hc, hf⟩ := h
  simp [formB, fdT] at hform
  obtain ⟨z_r2, z_cs, z_aq, z_rl⟩ := hform
  subst z_r2
  subst z_cs
  subst z_aq
  subst z_rl
  obtain ⟨d, rfl⟩ := r5 hd
  obtain ⟨s, rfl⟩ := r5 hs
  obtain ⟨y, rfl⟩ := fitsH hf
  have e : encV v 7 (d.toNat : Int) (s.toNat : Int) 0 (y.toNat : Int) 0 false false = v ||| lyH y ||| (d.setWidth 32 <<< 7) ||| (s.setWidth 32 <<< 15) := by
    unfold encV; rw [lyEH]
    simp only [o5, o12, oz, BitVec.zero_or, BitVec.or_zero, BitVec.zero_shiftLeft, BitVec.or_assoc, Bool.false_eq_true, if_false]
  have k0 := xeH0 v d s y
  have k1 := xeH1 v d s y
  have k2 := xeH2 v d s y
  have k3 := xeH3 v d s y
  rw [hv] at k0 k1 k2 k3
  generalize v ||| lyH y ||| (d.setWidth 32 <<< 7) ||| (s.setWidth 32 <<< 15) = E at e k0 k1 k2 k3
  rw [e]
  refine ⟨k0, ?_⟩
  unfold decC; rw [if_neg ho]; simp [fld7, fld15, immH, k1, k2, k3]
theorem de8 {op : Int} (ho : op ≠ 0) {b v : BitVec 32} (h : b &&& 4261441663#32 = v) : ∃ rd r1 r2 im cs aq rl, decC op 8 (b.setWidth 64) = inC op rd r1 r2 im cs aq rl ∧ checkT 8 rd r1 r2 im cs aq rl = 0 ∧ encV v 8 rd r1 r2 im cs aq rl = b := by
  refine ⟨((rf b 7).toNat : Int), ((rf b 15).toNat : Int), 0, ((getW b).toNat : Int), 0, false, false, ?_, ?_, ?_⟩
  · unfold decC; rw [if_neg ho]; simp [fld7 b, fld15 b, immW b]
  · rw [check_iff]; have := (rf b 7).isLt; have := (rf b 15).isLt; exact ⟨by decide, by simp [formB, fdT], by omega, by omega, by omega, by omega, fitsW' _⟩
  · subst h; unfold encV; rw [lyEW]
    have k := xdW b
    simp only [o5, o12, oz, BitVec.zero_or, BitVec.or_zero, BitVec.zero_shiftLeft, BitVec.or_assoc, Bool.false_eq_true, if_false] at k ⊢
    exact k
theorem en8 {op : Int} (ho : op ≠ 0) {v : BitVec 32} (hv : v &&& 4261441663#32 = v) {rd r1 r2 im cs : Int} {aq rl : Bool} (h : checkT 8 rd r1 r2 im cs aq rl = 0) : encV v 8 rd r1 r2 im cs aq rl &&& 4261441663#32 = v ∧ decC op 8 ((encV v 8 rd r1 r2 im cs aq rl).setWidth 64) = inC op rd r1 r2 im cs aq rl := by
  rw [check_iff] at h
  obtain ⟨_, hform, hd, hs, ht, hc, hf⟩ := h
  simp [formB, fdT] at hform
  obtain ⟨z_r2, z_cs, z_aq, z_rl⟩ := hform
  subst z_r2
  subst z_cs
  subst z_aq
  subst z_rl
  obtain ⟨d, rfl⟩ := r5 hd
  obtain ⟨s, rfl⟩ := r5 hs
  obtain ⟨y, rfl⟩ := fitsW hf
  have e : encV v 8 (d.toNat : Int) (s.toNat : Int) 0 (y.toNat : Int) 0 false false = v ||| lyW y ||| (d.setWidth 32 <<< 7) ||| (s.setWidth 32 <<< 15) := by
    unfold encV; rw [lyEW]
    simp only [o5, o12, oz, BitVec.zero_or, BitVec.or_zero, BitVec.zero_shiftLeft, BitVec.or_assoc, Bool.false_eq_true, if_false]
  have k0 := xeW0 v d s y
  have k1 := xeW1 v d s y
  have k2 := xeW2 v d s y
  have k3 := xeW3 v d s y
  rw [hv] at k0 k1 k2 k3
  generalize v ||| lyW y ||| (d.setWidth 32 <<< 7) ||| (s.setWidth 32 <<< 15) = E at e k0 k1 k2 k3
  rw [e]
  refine ⟨k0, ?_⟩
  unfold decC; rw [if_neg ho]; simp [fld7, fld15, immW, k1, k2, k3]
theorem de9 {op : Int} (ho : op ≠ 0) {b v : BitVec 32} (h : b &&& 28799#32 = v) : ∃ rd r1 r2 im cs aq rl, decC op 9 (b.setWidth 64) = inC op rd r1 r2 im cs aq rl ∧ checkT 9 rd r1 r2 im cs aq rl = 0 ∧ encV v 9 rd r1 r2 im cs aq rl = b := by
  refine ⟨((rf b 7).toNat : Int), ((rf b 15).toNat : Int), 0, 0, ((((b >>> 20).setWidth 12 : BitVec 12)).toNat : Int), false, false, ?_, ?_, ?_⟩
  · unfold decC; rw [if_neg ho]; simp [fld7 b, fld15 b, immT, fldC b]
  · rw [check_iff]; have := (rf b 7).isLt; have := (rf b 15).isLt; have := ((b >>> 20).setWidth 12 : BitVec 12).isLt; exact ⟨by decide, by simp [formB, fdT], by omega, by omega, by omega, by omega, rfl⟩
  · subst h; unfold encV; rw [lyE9]
    have k := xdC b
    simp only [o5, o12, oz, BitVec.zero_or, BitVec.or_zero, BitVec.zero_shiftLeft, BitVec.or_assoc, Bool.false_eq_true, if_false] at k ⊢
    exact k
theorem en9 {op : Int} (ho : op ≠ 0) {v : BitVec 32} (hv : v &&& 28799#32 = v) {rd r1 r2 im cs : Int} {aq rl : Bool} (h : checkT 9 rd r1 r2 im cs aq rl = 0) : encV v 9 rd r1 r2 im cs aq rl &&& 28799#32 = v ∧ decC op 9 ((encV v 9 rd r1 r2 im cs aq rl).setWidth 64) = inC op rd r1 r2 im cs aq rl := by
  rw [check_iff] at h
  obtain ⟨_, hform, hd, hs, ht, hc, hf⟩ := h
  simp [formB, fdT] at hform
  obtain ⟨z_r2, z_im, z_aq, z_rl⟩ := hform
  subst z_r2
  subst z_im
  subst z_aq
  subst z_rl
  obtain ⟨d, rfl⟩ := r5 hd
  obtain ⟨s, rfl⟩ := r5 hs
  obtain ⟨c, rfl⟩ := r12 hc
  have e : encV v 9 (d.toNat : Int) (s.toNat : Int) 0 0 (c.toNat : Int) false false = v ||| (d.setWidth 32 <<< 7) ||| (s.setWidth 32 <<< 15) ||| (c.setWidth 32 <<< 20) := by
    unfold encV; rw [lyE9]
    simp only [o5, o12, oz, BitVec.zero_or, BitVec.or_zero, BitVec.zero_shiftLeft, BitVec.or_assoc, Bool.false_eq_true, if_false]
  have k0 := xeC0 v d s c
  have k1 := xeC1 v d s c
  have k2 := xeC2 v d s c
  have k3 := xeC3 v d s c
  rw [hv] at k0 k1 k2 k3
  generalize v ||| (d.setWidth 32 <<< 7) ||| (s.setWidth 32 <<< 15) ||| (c.setWidth 32 <<< 20) = E at e k0 k1 k2 k3
  rw [e]
  refine ⟨k0, ?_⟩
  unfold decC; rw [if_neg ho]; simp [fld7, fld15, immT, fldC, k1, k2, k3]
theorem de10 {op : Int} (ho : op ≠ 0) {b v : BitVec 32} (h : b &&& 28799#32 = v) : ∃ rd r1 r2 im cs aq rl, decC op 10 (b.setWidth 64) = inC op rd r1 r2 im cs aq rl ∧ checkT 10 rd r1 r2 im cs aq rl = 0 ∧ encV v 10 rd r1 r2 im cs aq rl = b := by
  refine ⟨((rf b 7).toNat : Int), ((rf b 15).toNat : Int), 0, 0, ((((b >>> 20).setWidth 12 : BitVec 12)).toNat : Int), false, false, ?_, ?_, ?_⟩
  · unfold decC; rw [if_neg ho]; simp [fld7 b, fld15 b, immT, fldC b]
  · rw [check_iff]; have := (rf b 7).isLt; have := (rf b 15).isLt; have := ((b >>> 20).setWidth 12 : BitVec 12).isLt; exact ⟨by decide, by simp [formB, fdT], by omega, by omega, by omega, by omega, rfl⟩
  · subst h; unfold encV; rw [lyE10]
    have k := xdC b
    simp only [o5, o12, oz, BitVec.zero_or, BitVec.or_zero, BitVec.zero_shiftLeft, BitVec.or_assoc, Bool.false_eq_true, if_false] at k ⊢
    exact k
theorem en10 {op : Int} (ho : op ≠ 0) {v : BitVec 32} (hv : v &&& 28799#32 = v) {rd r1 r2 im cs : Int} {aq rl : Bool} (h : checkT 10 rd r1 r2 im cs aq rl = 0) : encV v 10 rd r1 r2 im cs aq rl &&& 28799#32 = v ∧ decC op 10 ((encV v 10 rd r1 r2 im cs aq rl).setWidth 64) = inC op rd r1 r2 im cs aq rl := by
  rw [check_iff] at h
  obtain ⟨_, hform, hd, hs, ht, hc, hf⟩ := h
  simp [formB, fdT] at hform
  obtain ⟨z_r2, z_im, z_aq, z_rl⟩ := hform
  subst z_r2
  subst z_im
  subst z_aq
  subst z_rl
  obtain ⟨d, rfl⟩ := r5 hd
  obtain ⟨s, rfl⟩ := r5 hs
  obtain ⟨c, rfl⟩ := r12 hc
  have e : encV v 10 (d.toNat : Int) (s.toNat : Int) 0 0 (c.toNat : Int) false false = v ||| (d.setWidth 32 <<< 7) ||| (s.setWidth 32 <<< 15) ||| (c.setWidth 32 <<< 20) := by
    unfold encV; rw [lyE10]
    simp only [o5, o12, oz, BitVec.zero_or, BitVec.or_zero, BitVec.zero_shiftLeft, BitVec.or_assoc, Bool.false_eq_true, if_false]
  have k0 := xeC0 v d s c
  have k1 := xeC1 v d s c
  have k2 := xeC2 v d s c
  have k3 := xeC3 v d s c
  rw [hv] at k0 k1 k2 k3
  generalize v ||| (d.setWidth 32 <<< 7) ||| (s.setWidth 32 <<< 15) ||| (c.setWidth 32 <<< 20) = E at e k0 k1 k2 k3
  rw [e]
  refine ⟨k0, ?_⟩
  unfold decC; rw [if_neg ho]; simp [fld7, fld15, immT, fldC, k1, k2, k3]
theorem de11 {op : Int} (ho : op ≠ 0) {b v : BitVec 32} (h : b &&& 4160778367#32 = v) : ∃ rd r1 r2 im cs aq rl, decC op 11 (b.setWidth 64) = inC op rd r1 r2 im cs aq rl ∧ checkT 11 rd r1 r2 im cs aq rl = 0 ∧ encV v 11 rd r1 r2 im cs aq rl = b := by
  refine ⟨((rf b 7).toNat : Int), ((rf b 15).toNat : Int), ((rf b 20).toNat : Int), 0, 0, b.getLsbD 26, b.getLsbD 25, ?_, ?_, ?_⟩
  · unfold decC; rw [if_neg ho]; simp [fld7 b, fld15 b, fld20 b, immT, fldA26 b, fldA25 b]
  · rw [check_iff]; have := (rf b 7).isLt; have := (rf b 15).isLt; have := (rf b 20).isLt; exact ⟨by decide, by simp [formB, fdT], by omega, by omega, by omega, by omega, rfl⟩
  · subst h; unfold encV; rw [lyE11]
    have k := xdA b
    simp only [o5, o12, oz, BitVec.zero_or, BitVec.or_zero, BitVec.zero_shiftLeft, BitVec.or_assoc, Bool.false_eq_true, if_false] at k ⊢
    exact k
theorem en11 {op : Int} (ho : op ≠ 0) {v : BitVec 32} (hv : v &&& 4160778367#32 = v) {rd r1 r2 im cs : Int} {aq rl : Bool} (h : checkT 11 rd r1 r2 im cs aq rl = 0) : encV v 11 rd r1 r2 im cs aq rl &&& 4160778367#32 = v ∧ decC op 11 ((encV v 11 rd r1 r2 im cs aq rl).setWidth 64) = inC op rd r1 r2 im cs aq rl := by
  rw [check_iff] at h
  obtain ⟨_, hform, hd, hs, ht, hc, hf⟩ := h
  simp [formB, fdT] at hform
  obtain ⟨z_im, z_cs⟩ := hform
  subst z_im
  subst z_cs
  obtain ⟨d, rfl⟩ := r5 hd
  obtain ⟨s, rfl⟩ := r5 hs
  obtain ⟨t, rfl⟩ := r5 ht
  have e : encV v 11 (d.toNat : Int) (s.toNat : Int) (t.toNat : Int) 0 0 aq rl = (v ||| (d.setWidth 32 <<< 7) ||| (s.setWidth 32 <<< 15) ||| (t.setWidth 32 <<< 20)) ||| (if aq = true then 67108864#32 else 0#32) ||| (if rl = true then 33554432#32 else 0#32) := by
    unfold encV; rw [lyE11]
    simp only [o5, o12, oz, BitVec.zero_or, BitVec.or_zero, BitVec.zero_shiftLeft, BitVec.or_assoc, Bool.false_eq_true, if_false]
  have k0 := xeA0 v d s t aq rl
  have k1 := xeA1 v d s t aq rl
  have k2 := xeA2 v d s t aq rl
  have k3 := xeA3 v d s t aq rl
  have k4 := xeA4 v d s t aq rl
  have k5 := xeA5 v d s t aq rl
  rw [hv] at k0 k1 k2 k3 k4 k5
  generalize (v ||| (d.setWidth 32 <<< 7) ||| (s.setWidth 32 <<< 15) ||| (t.setWidth 32 <<< 20)) ||| (if aq = true then 67108864#32 else 0#32) ||| (if rl = true then 33554432#32 else 0#32) = E at e k0 k1 k2 k3 k4 k5
  rw [e]
  refine ⟨k0, ?_⟩
  simp at k4 k5
  unfold decC; rw [if_neg ho]; simp [fld7, fld15, fld20, immT, fldA26, fldA25, k1, k2, k3, k4, k5]
theorem de12 {op : Int} (ho : op ≠ 0) {b v : BitVec 32} (h : b &&& 4193284223#32 = v) (hz : v &&& 32505856#32 = 0#32) : ∃ rd r1 r2 im cs aq rl, decC op 12 (b.setWidth 64) = inC op rd r1 r2 im cs aq rl ∧ checkT 12 rd r1 r2 im cs aq rl = 0 ∧ encV v 12 rd r1 r2 im cs aq rl = b := by
  refine ⟨((rf b 7).toNat : Int), ((rf b 15).toNat : Int), 0, 0, 0, b.getLsbD 26, b.getLsbD 25, ?_, ?_, ?_⟩
  · have z : rf b 20 = 0#5 := by
      subst h
      exact zL b hz
    unfold decC; rw [if_neg ho]; simp [fld7 b, fld15 b, fld20 b, immT, fldA26 b, fldA25 b, z]
  · rw [check_iff]; have := (rf b 7).isLt; have := (rf b 15).isLt; exact ⟨by decide, by simp [formB, fdT], by omega, by omega, by omega, by omega, rfl⟩
  · subst h; unfold encV; rw [lyE12]
    have k := xdL b
    simp only [o5, o12, oz, BitVec.zero_or, BitVec.or_zero, BitVec.zero_shiftLeft, BitVec.or_assoc, Bool.false_eq_true, if_false] at k ⊢
    exact k
theorem en12 {op : Int} (ho : op ≠ 0) {v : BitVec 32} (hv : v &&& 4193284223#32 = v) (hz : v &&& 32505856#32 = 0#32) {rd r1 r2 im cs : Int} {aq rl : Bool} (h : checkT 12 rd r1 r2 im cs aq rl = 0) : encV v 12 rd r1 r2 im cs aq rl &&& 4193284223#32 = v ∧ decC op 12 ((encV v 12 rd r1 r2 im cs aq rl).setWidth 64) = inC op rd r1 r2 im cs aq rl := by
  rw [check_iff] at h
  obtain ⟨_, hform, hd, hs, ht, hc, hf⟩ := h
  simp [formB, fdT] at hform
  obtain ⟨z_r2, z_im, z_cs⟩ := hform
  subst z_r2
  subst z_im
  subst z_cs
  obtain ⟨d, rfl⟩ := r5 hd
  obtain ⟨s, rfl⟩ := r5 hs
  have e : encV v 12 (d.toNat : Int) (s.toNat : Int) 0 0 0 aq rl = (v ||| (d.setWidth 32 <<< 7) ||| (s.setWidth 32 <<< 15)) ||| (if aq = true then 67108864#32 else 0#32) ||| (if rl = true then 33554432#32 else 0#32) := by
    unfold encV; rw [lyE12]
    simp only [o5, o12, oz, BitVec.zero_or, BitVec.or_zero, BitVec.zero_shiftLeft, BitVec.or_assoc, Bool.false_eq_true, if_false]
  have k0 := xeL0 v d s aq rl
  have k1 := xeL1 v d s aq rl
  have k2 := xeL2 v d s aq rl
  have k3 := xeL3 v d s aq rl
  have k4 := xeL4 v d s aq rl
  have kz := xeLz v aq rl d s hz
  rw [hv] at k0 k1 k2 k3 k4
  generalize (v ||| (d.setWidth 32 <<< 7) ||| (s.setWidth 32 <<< 15)) ||| (if aq = true then 67108864#32 else 0#32) ||| (if rl = true then 33554432#32 else 0#32) = E at e k0 k1 k2 k3 k4 kz
  rw [e]
  refine ⟨k0, ?_⟩
  simp at k3 k4
  unfold decC; rw [if_neg ho]; simp [fld7, fld15, fld20, immT, fldA26, fldA25, k1, k2, k3, k4, kz]
theorem de14 {op : Int} (ho : op ≠ 0) {b v : BitVec 32} (h : b &&& 4261445631#32 = v) : ∃ rd r1 r2 im cs aq rl, decC op 14 (b.setWidth 64) = inC op rd r1 r2 im cs aq rl ∧ checkT 14 rd r1 r2 im cs aq rl = 0 ∧ encV v 14 rd r1 r2 im cs aq rl = b := by
  refine ⟨0, ((rf b 15).toNat : Int), ((rf b 20).toNat : Int), 0, 0, false, false, ?_, ?_, ?_⟩
  · unfold decC; rw [if_neg ho]; simp [fld15 b, fld20 b, immT]
  · rw [check_iff]; have := (rf b 15).isLt; have := (rf b 20).isLt; exact ⟨by decide, by simp [formB, fdT], by omega, by omega, by omega, by omega, rfl⟩
  · subst h; unfold encV; rw [lyE14]
    have k := xdX b
    simp only [o5, o12, oz, BitVec.zero_or, BitVec.or_zero, BitVec.zero_shiftLeft, BitVec.or_assoc, Bool.false_eq_true, if_false] at k ⊢
    exact k
theorem en14 {op : Int} (ho : op ≠ 0) {v : BitVec 32} (hv : v &&& 4261445631#32 = v) {rd r1 r2 im cs : Int} {aq rl : Bool} (h : checkT 14 rd r1 r2 im cs aq rl = 0) : encV v 14 rd r1 r2 im cs aq rl &&& 4261445631#32 = v ∧ decC op 14 ((encV v 14 rd r1 r2 im cs aq rl).setWidth 64) = inC op rd r1 r2 im cs aq rl := by
  rw [check_iff] at h
  obtain ⟨_, hform, hd, hs, ht, hc, hf⟩ := h
  simp [formB, fdT] at hform
  obtain ⟨z_rd, z_im, z_cs, z_aq, z_rl⟩ := hform
  subst z_rd
  subst z_im
  subst z_cs
  subst z_aq
  subst z_rl
  obtain ⟨s, rfl⟩ := r5 hs
  obtain ⟨t, rfl⟩ := r5 ht
  have e : encV v 14 0 (s.toNat : Int) (t.toNat : Int) 0 0 false false = v ||| (s.setWidth 32 <<< 15) ||| (t.setWidth 32 <<< 20) := by
    unfold encV; rw [lyE14]
    simp only [o5, o12, oz, BitVec.zero_or, BitVec.or_zero, BitVec.zero_shiftLeft, BitVec.or_assoc, Bool.false_eq_true, if_false]
  have k0 := xeX0 v s t
  have k1 := xeX1 v s t
  have k2 := xeX2 v s t
  rw [hv] at k0 k1 k2
  generalize v ||| (s.setWidth 32 <<< 15) ||| (t.setWidth 32 <<< 20) = E at e k0 k1 k2
  rw [e]
  refine ⟨k0, ?_⟩
  unfold decC; rw [if_neg ho]; simp [fld15, fld20, immT, k1, k2]
end
end Go.Proofs.Ytcfnfdafcfpohaa
