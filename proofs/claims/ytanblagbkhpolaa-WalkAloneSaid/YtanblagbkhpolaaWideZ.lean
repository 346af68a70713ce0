/- Layer 2's reference product, digit by digit; the law WideProducts. -/
import Derived.Test.YtanblagbkhpolaaWideN
namespace Go.Proofs.Ytanblagbkhpolaa
open Go.Am
set_option linter.unusedSimpArgs false
set_option linter.unusedVariables false
noncomputable section

def valL : List Nat → Nat
  | [] => 0
  | d :: r => d + 65536 * valL r
theorem valL_set : ∀ (l : List Nat) (i d : Nat), i < l.length → valL (l.set i d) + l.getD i 0 * 65536 ^ i = valL l + d * 65536 ^ i := by
  intro l
  induction l with
  | nil => intro i d h; simp at h
  | cons x r ih =>
    intro i d h
    cases i with
    | zero => simp [valL]; omega
    | succ i =>
      have := ih i d (by simpa using h)
      have e1 : ∀ y : Nat, y * 65536 ^ (i + 1) = 65536 * (y * 65536 ^ i) := by intro y; rw [Nat.pow_succ, ← Nat.mul_assoc, Nat.mul_comm]
      simp only [List.set_cons_succ, List.getD_cons_succ, valL, e1]
      omega
def lc (l : List Nat) : List Sc := l.map fun d => .u (BitVec.ofNat 64 d)
theorem lc_len {l : List Nat} : (lc l).length = l.length := by simp [lc]
theorem lc_get {l : List Nat} {i : Nat} (h : i < l.length) : (lc l).getD i .any = .u (BitVec.ofNat 64 (l.getD i 0)) := by simp [lc, List.getD_eq_getElem?_getD, h]
theorem lc_isU {l : List Nat} : (lc l).all isU = true := by simp [lc, isU]
theorem lc_bel {l : List Nat} {n : Nat} : (lc l).all (Sc.bel n) = true := by simp [lc, Sc.bel]
theorem lc_set {l : List Nat} {i d : Nat} (h : i < l.length) : (lc l).take i ++ .u (BitVec.ofNat 64 d) :: (lc l).drop (i + 1) = lc (l.set i d) := by
  unfold lc
  rw [List.set_eq_take_append_cons_drop, if_pos h]
  simp [List.map_take, List.map_drop]
def dcell (w : BitVec 64) : List Sc := [.u (w % 65536#64), .u (w / 65536#64 % 65536#64), .u (w / 4294967296#64 % 65536#64), .u (w / 281474976710656#64)]
def dg (w : BitVec 64) (i : Nat) : Nat := w.toNat / 65536 ^ i % 65536
theorem dcell_get (w : BitVec 64) {i : Nat} (h : i < 4) : (dcell w).getD i .any = .u (BitVec.ofNat 64 (dg w i)) := by
  have hw := w.isLt
  rcases (by omega : i = 0 ∨ i = 1 ∨ i = 2 ∨ i = 3) with rfl | rfl | rfl | rfl
  · have : w % 65536#64 = BitVec.ofNat 64 (dg w 0) := BitVec.eq_of_toNat_eq (by unfold dg; simp; omega)
    simp only [dcell, List.getD_cons_zero, this]
  · have : w / 65536#64 % 65536#64 = BitVec.ofNat 64 (dg w 1) := BitVec.eq_of_toNat_eq (by unfold dg; simp; omega)
    simp only [dcell, List.getD_cons_succ, List.getD_cons_zero, this]
  · have : w / 4294967296#64 % 65536#64 = BitVec.ofNat 64 (dg w 2) := BitVec.eq_of_toNat_eq (by unfold dg; simp; omega)
    simp only [dcell, List.getD_cons_succ, List.getD_cons_zero, this]
  · have : w / 281474976710656#64 = BitVec.ofNat 64 (dg w 3) := BitVec.eq_of_toNat_eq (by unfold dg; simp; omega)
    simp only [dcell, List.getD_cons_succ, List.getD_cons_zero, this]
theorem dg_lt (w : BitVec 64) (i : Nat) : dg w i < 65536 := Nat.mod_lt _ (by omega)
theorem mod_succ (x i : Nat) : x % 65536 ^ (i + 1) = x % 65536 ^ i + x / 65536 ^ i % 65536 * 65536 ^ i := by
  rw [Nat.pow_succ, Nat.mod_mul, Nat.mul_comm (65536 ^ i)]
/-- what is reckoned by digit i of one, and k digits of the other -/
def part (a b : BitVec 64) (i k : Nat) : Nat := a.toNat % 65536 ^ i * b.toNat + dg a i * 65536 ^ i * (b.toNat % 65536 ^ k)
theorem part_succ (a b : BitVec 64) (i k : Nat) : part a b i (k + 1) = part a b i k + dg a i * dg b k * 65536 ^ (i + k) := by
  unfold part
  rw [mod_succ b.toNat k, Nat.mul_add, Nat.add_assoc]
  congr 2
  rw [Nat.pow_add]
  show dg a i * 65536 ^ i * (dg b k * 65536 ^ k) = _
  rw [Nat.mul_mul_mul_comm]
theorem part_4 (a b : BitVec 64) (i : Nat) : part a b i 4 = part a b (i + 1) 0 := by
  unfold part
  have hb : b.toNat % 65536 ^ 4 = b.toNat := Nat.mod_eq_of_lt b.isLt
  rw [hb, mod_succ a.toNat i, Nat.pow_zero, Nat.mod_one, Nat.mul_zero, Nat.add_zero, Nat.add_mul]
  rfl
theorem part_le (a b : BitVec 64) (i k : Nat) (hi : i < 4) : part a b i k ≤ a.toNat * b.toNat := by
  have h1 : part a b i k ≤ (a.toNat % 65536 ^ (i + 1)) * b.toNat := by
    unfold part
    rw [mod_succ, Nat.add_mul]
    exact Nat.add_le_add_left (Nat.mul_le_mul_left _ (Nat.mod_le _ _)) _
  exact Nat.le_trans h1 (Nat.mul_le_mul_right _ (Nat.mod_le _ _))
structure Good (l : List Nat) : Prop where
  len : l.length = 8
  lt : ∀ j, l.getD j 0 < 65536
theorem Good.set {l : List Nat} (h : Good l) (i d : Nat) (hd : d < 65536) : Good (l.set i d) := by
  refine ⟨by simp [h.len], fun j => ?_⟩
  have := h.lt j
  rw [List.getD_eq_getElem?_getD] at this ⊢
  rw [List.getElem?_set]
  split
  · split
    · simpa using hd
    · simp
  · exact this
theorem w_lt {x : Nat} (h : x < 18446744073709551616) : (BitVec.ofNat 64 x).toNat = x := by rw [BitVec.toNat_ofNat]; exact Nat.mod_eq_of_lt h
theorem words (l : List Nat) (h : Good l) : (wv (lc l) 4 4).toNat * 18446744073709551616 + (wv (lc l) 0 4).toNat = valL l := by
  obtain ⟨hl, hlt⟩ := h
  match l, hl with
  | [d0, d1, d2, d3, d4, d5, d6, d7], _ =>
    have h0 := hlt 0; have h1 := hlt 1; have h2 := hlt 2; have h3 := hlt 3
    have h4 := hlt 4; have h5 := hlt 5; have h6 := hlt 6; have h7 := hlt 7
    simp only [List.getD_cons_zero, List.getD_cons_succ] at h0 h1 h2 h3 h4 h5 h6 h7
    simp only [wv, lc, List.map_cons, List.map_nil, uOf, List.getD_cons_zero, List.getD_cons_succ, Nat.reduceAdd, Nat.reduceSub, Nat.sub_zero, Nat.sub_self, Nat.add_zero, Nat.zero_add, BitVec.toNat_add, BitVec.toNat_mul, BitVec.toNat_ofNat, valL, Nat.reducePow, Nat.reduceMod, Nat.zero_mod, Nat.zero_mul]
    omega

theorem bel_neg (a : BitVec 64) : belowU a = decide (a.toInt < 0) := below_neg
def rhighU (a b : BitVec 64) (s : Int) : BitVec 64 := timesHi a b - dropU (0 < s ∧ a.toInt < 0) b - dropU (1 < s ∧ b.toInt < 0) a

end
end Go.Proofs.Ytanblagbkhpolaa
