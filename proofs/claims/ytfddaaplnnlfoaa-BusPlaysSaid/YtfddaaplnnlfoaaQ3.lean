/- The controller of a bus: what stands in it: plain. -/
import Derived.Test.YtfddaaplnnlfoaaQ1
namespace Go.Proofs.Ytfddaaplnnlfoaa
open Go.Am
set_option linter.unusedSimpArgs false
set_option linter.unusedVariables false
noncomputable section

structure Pk where
  n : Int
  p : List Int
  w : BitVec 32
  q : BitVec 32
  s : BitVec 32
  e : List (BitVec 32)
  l : List Int
def k8 (x : Int) : Sc := .k .u8 x
def pkC (x : Pk) : List Sc := .i x.n :: (x.p.map k8 ++ (w32 x.w :: w32 x.q :: w32 x.s :: (x.e.map w32 ++ x.l.map k8)))
structure PkOk (x : Pk) : Prop where
  p : x.p.length = 32
  e : x.e.length = 16
  l : x.l.length = 16
  n0 : 0 ≤ x.n
  n1 : x.n ≤ 8
  p7 : ∀ k, 0 ≤ x.p.getD k 0 ∧ x.p.getD k 0 ≤ 7
  l7 : ∀ k, 0 ≤ x.l.getD k 0 ∧ x.l.getD k 0 ≤ 7
theorem pkC_l {x : Pk} (h : PkOk x) : (pkC x).length = 68 := by simp [pkC, h.p, h.e, h.l]
theorem w32_inj (a b : BitVec 32) (h : w32 a = w32 b) : a = b := by
  simp only [w32, Sc.k.injEq, true_and] at h
  exact BitVec.eq_of_toNat_eq (by omega)
theorem k8_inj (a b : Int) (h : k8 a = k8 b) : a = b := by simpa [k8] using h
theorem pk_enc : Enc pkC PkOk 68 := ⟨fun a h => pkC_l h, fun a b ha hb h => by
  simp only [pkC, List.cons.injEq, Sc.i.injEq] at h
  obtain ⟨h1, h2⟩ := h
  obtain ⟨h3, h4⟩ := List.append_inj h2 (by simp [ha.p, hb.p])
  simp only [List.cons.injEq] at h4
  obtain ⟨h5, h6, h7, h8⟩ := h4
  obtain ⟨h9, h10⟩ := List.append_inj h8 (by simp [ha.e, hb.e])
  have g3 := map_inj k8_inj h3
  have g9 := map_inj w32_inj h9
  have g10 := map_inj k8_inj h10
  have g5 := w32_inj _ _ h5
  have g6 := w32_inj _ _ h6
  have g7 := w32_inj _ _ h7
  clear h2 h3 h5 h6 h7 h8 h9 h10 ha hb
  cases a; cases b
  simp only at h1 g3 g5 g6 g7 g9 g10
  subst h1 g3 g5 g6 g7 g9 g10
  rfl⟩
theorem pkC_bel (x : Pk) (n : Nat) : (pkC x).all (Sc.bel n) = true := by
  simp only [pkC, List.all_cons, List.all_append, List.all_map, Bool.and_eq_true]
  exact ⟨rfl, List.all_eq_true.2 fun _ _ => rfl, rfl, rfl, rfl, List.all_eq_true.2 fun _ _ => rfl, List.all_eq_true.2 fun _ _ => rfl⟩
theorem pk_0 (x : Pk) : (pkC x).getD 0 .any = .i x.n := rfl
theorem pk_p {x : Pk} (h : PkOk x) {k : Nat} (hk : k < 32) : (pkC x).getD (1 + k) .any = k8 (x.p.getD k 0) := by
  simp only [pkC, List.getD_eq_getElem?_getD, Nat.add_comm 1 k, List.getElem?_cons_succ]
  rw [List.getElem?_append_left (by simp [h.p]; omega), List.getElem?_map, List.getElem?_eq_getElem (by have := h.p; omega)]
  rfl
theorem pk_at {x : Pk} (h : PkOk x) (k : Nat) : (pkC x).getD (33 + k) .any = (w32 x.w :: w32 x.q :: w32 x.s :: (x.e.map w32 ++ x.l.map k8)).getD k .any := by
  simp only [pkC, List.getD_eq_getElem?_getD, show 33 + k = (32 + k) + 1 by omega, List.getElem?_cons_succ]
  rw [List.getElem?_append_right (by simp [h.p]), List.length_map, h.p, Nat.add_sub_cancel_left]
theorem pk_w {x : Pk} (h : PkOk x) : (pkC x).getD 33 .any = w32 x.w := pk_at h 0
theorem pk_q {x : Pk} (h : PkOk x) : (pkC x).getD 34 .any = w32 x.q := pk_at h 1
theorem pk_s {x : Pk} (h : PkOk x) : (pkC x).getD 35 .any = w32 x.s := pk_at h 2
theorem pk_e {x : Pk} (h : PkOk x) {k : Nat} (hk : k < 16) : (pkC x).getD (36 + k) .any = w32 (x.e.getD k 0#32) := by
  rw [show 36 + k = 33 + (k + 1 + 1 + 1) by omega, pk_at h]
  simp only [List.getD_eq_getElem?_getD, List.getElem?_cons_succ]
  rw [List.getElem?_append_left (by simp [h.e]; omega), List.getElem?_map, List.getElem?_eq_getElem (by have := h.e; omega)]
  rfl
theorem pk_l {x : Pk} (h : PkOk x) {k : Nat} (hk : k < 16) : (pkC x).getD (52 + k) .any = k8 (x.l.getD k 0) := by
  rw [show 52 + k = 33 + (16 + k + 1 + 1 + 1) by omega, pk_at h]
  simp only [List.getD_eq_getElem?_getD, List.getElem?_cons_succ]
  rw [List.getElem?_append_right (by simp [h.e]), List.length_map, h.e, Nat.add_sub_cancel_left, List.getElem?_map, List.getElem?_eq_getElem (by have := h.l; omega)]
  rfl
theorem pkw_p {x : Pk} (h : PkOk x) {k : Nat} (hk : k < 32) (v : Int) : wr (pkC x) (1 + k) [k8 v] = pkC { x with p := x.p.set k v } := by
  rw [wr_one (by rw [pkC_l h]; omega), Nat.add_comm]
  show .i x.n :: ((x.p.map k8 ++ _).set k (k8 v)) = _
  rw [List.set_append_left _ _ (by simp [h.p]; omega), ← List.map_set]; rfl
theorem pkw_at {x : Pk} (h : PkOk x) {k : Nat} (hk : k < 35) (v : Sc) : wr (pkC x) (33 + k) [v] = .i x.n :: (x.p.map k8 ++ (w32 x.w :: w32 x.q :: w32 x.s :: (x.e.map w32 ++ x.l.map k8)).set k v) := by
  rw [wr_one (by rw [pkC_l h]; omega), show 33 + k = (32 + k) + 1 by omega]
  show .i x.n :: ((x.p.map k8 ++ _).set (32 + k) v) = _
  rw [List.set_append_right _ _ (by simp [h.p]), List.length_map, h.p, Nat.add_sub_cancel_left]
theorem pkw_w {x : Pk} (h : PkOk x) (v : BitVec 32) : wr (pkC x) 33 [w32 v] = pkC { x with w := v } := pkw_at (k := 0) h (by decide) _
theorem pkw_q {x : Pk} (h : PkOk x) (v : BitVec 32) : wr (pkC x) 34 [w32 v] = pkC { x with q := v } := pkw_at (k := 1) h (by decide) _
theorem pkw_s {x : Pk} (h : PkOk x) (v : BitVec 32) : wr (pkC x) 35 [w32 v] = pkC { x with s := v } := pkw_at (k := 2) h (by decide) _
theorem pkw_e {x : Pk} (h : PkOk x) {k : Nat} (hk : k < 16) (v : BitVec 32) : wr (pkC x) (36 + k) [w32 v] = pkC { x with e := x.e.set k v } := by
  rw [show 36 + k = 33 + (k + 1 + 1 + 1) by omega, pkw_at h (by omega)]
  show .i x.n :: (x.p.map k8 ++ (w32 x.w :: w32 x.q :: w32 x.s :: ((x.e.map w32 ++ x.l.map k8).set k (w32 v)))) = _
  rw [List.set_append_left _ _ (by simp [h.e]; omega), ← List.map_set]; rfl
theorem pkw_l {x : Pk} (h : PkOk x) {k : Nat} (hk : k < 16) (v : Int) : wr (pkC x) (52 + k) [k8 v] = pkC { x with l := x.l.set k v } := by
  rw [show 52 + k = 33 + (16 + k + 1 + 1 + 1) by omega, pkw_at h (by omega)]
  show .i x.n :: (x.p.map k8 ++ (w32 x.w :: w32 x.q :: w32 x.s :: ((x.e.map w32 ++ x.l.map k8).set (16 + k) (k8 v)))) = _
  rw [List.set_append_right _ _ (by simp [h.e]), List.length_map, h.e, Nat.add_sub_cancel_left, ← List.map_set]; rfl
theorem getD_set7 {l : List Int} (h : ∀ k, 0 ≤ l.getD k 0 ∧ l.getD k 0 ≤ 7) {i : Nat} {v : Int} (hv : 0 ≤ v ∧ v ≤ 7) (k : Nat) : 0 ≤ (l.set i v).getD k 0 ∧ (l.set i v).getD k 0 ≤ 7 := by
  have := h k
  simp only [List.getD_eq_getElem?_getD, List.getElem?_set] at this ⊢
  split
  · split
    · exact hv
    · simp
  · exact this
theorem PkOk.setP {x : Pk} (h : PkOk x) (k : Nat) {v : Int} (hv : 0 ≤ v ∧ v ≤ 7) : PkOk { x with p := x.p.set k v } := ⟨by simp [h.p], h.e, h.l, h.n0, h.n1, getD_set7 h.p7 hv, h.l7⟩
theorem PkOk.setL {x : Pk} (h : PkOk x) (k : Nat) {v : Int} (hv : 0 ≤ v ∧ v ≤ 7) : PkOk { x with l := x.l.set k v } := ⟨h.p, h.e, by simp [h.l], h.n0, h.n1, h.p7, getD_set7 h.l7 hv⟩
theorem PkOk.setE {x : Pk} (h : PkOk x) (k : Nat) (v : BitVec 32) : PkOk { x with e := x.e.set k v } := ⟨h.p, by simp [h.e], h.l, h.n0, h.n1, h.p7, h.l7⟩
theorem PkOk.setW {x : Pk} (h : PkOk x) (w q s : BitVec 32) : PkOk { x with w := w, q := q, s := s } := ⟨h.p, h.e, h.l, h.n0, h.n1, h.p7, h.l7⟩
/-! ### the best of those that wait -/
def eliB (p : List Int) (am : BitVec 32) (ab : Int) (i : Nat) : Bool := decide (am >>> i &&& 1#32 = 1#32) && decide (ab < p.getD i 0)
def bstN (p : List Int) (am : BitVec 32) (ab : Int) : Nat → Nat
  | 0 => 0
  | k + 1 => if (eliB p am ab (k + 1) && (decide (bstN p am ab k = 0) || decide (p.getD (bstN p am ab k) 0 < p.getD (k + 1) 0))) = true then k + 1 else bstN p am ab k
theorem bstN_le {p : List Int} {am : BitVec 32} {ab : Int} : ∀ k, bstN p am ab k ≤ k
  | 0 => Nat.le_refl 0
  | k + 1 => by
    have := bstN_le (p := p) (am := am) (ab := ab) k
    unfold bstN
    split <;> omega
def bitK (i : Nat) : BitVec 32 := 1#32 <<< i
/-! ### where a register stands -/
structure Pa where
  k : Int
  i : Nat
def plAt (n : Int) (off : BitVec 64) (size : Int) : Pa :=
  if ¬ size = 4 ∨ ¬ off % 4#64 = 0#64 ∨ BitVec.ofInt 64 (2 * n) = 0#64 then ⟨0, 0⟩
  else if 4#64 ≤ off ∧ off < 128#64 then ⟨1, (off / 4#64).toNat⟩
  else if off = 4096#64 then ⟨2, 0⟩
  else if 8192#64 ≤ off ∧ off < 8192#64 + 128#64 * BitVec.ofInt 64 (2 * n) ∧ off % 128#64 = 0#64 then ⟨3, ((off - 8192#64) / 128#64).toNat⟩
  else if 2097152#64 ≤ off ∧ off < 2097152#64 + 4096#64 * BitVec.ofInt 64 (2 * n) ∧ off % 4096#64 = 0#64 then ⟨4, ((off - 2097152#64) / 4096#64).toNat⟩
  else if 2097152#64 ≤ off ∧ off < 2097152#64 + 4096#64 * BitVec.ofInt 64 (2 * n) ∧ off % 4096#64 = 4#64 then ⟨5, ((off - 2097152#64) / 4096#64).toNat⟩
  else ⟨0, 0⟩
theorem lt_of_page {n : Int} (n0 : 0 ≤ n) (n1 : n ≤ 8) {off : BitVec 64} {a b : Nat} (ha : a ≤ 2097152) (hb : b = 128 ∨ b = 4096) (h1 : BitVec.ofNat 64 a ≤ off) (h2 : off < BitVec.ofNat 64 a + BitVec.ofNat 64 b * BitVec.ofInt 64 (2 * n)) : ((off - BitVec.ofNat 64 a) / BitVec.ofNat 64 b).toNat < 16 := by
  have e : (BitVec.ofInt 64 (2 * n)).toNat = 2 * n.toNat := by rw [BitVec.toNat_ofInt]; omega
  have ea : (BitVec.ofNat 64 a).toNat = a := by rw [BitVec.toNat_ofNat]; omega
  have eb : (BitVec.ofNat 64 b).toNat = b := by rw [BitVec.toNat_ofNat]; omega
  rw [BitVec.lt_def, BitVec.toNat_add, BitVec.toNat_mul, e, ea, eb] at h2
  rw [BitVec.le_def, ea] at h1
  rw [BitVec.toNat_udiv, BitVec.toNat_sub, ea, eb]
  have := off.isLt
  have hn : n.toNat ≤ 8 := by omega
  rcases hb with rfl | rfl <;> omega
theorem plAt_i {n : Int} (n0 : 0 ≤ n) (n1 : n ≤ 8) (off : BitVec 64) (size : Int) : (plAt n off size).i < 32 ∧ ((plAt n off size).k ≠ 1 → (plAt n off size).i < 16) := by
  unfold plAt
  split
  · exact ⟨by show (0 : Nat) < 32; decide, fun _ => by show (0 : Nat) < 16; decide⟩
  split
  · rename_i h
    have h := h.2
    rw [BitVec.lt_def] at h
    have e1 : (128#64).toNat = 128 := rfl
    rw [e1] at h
    refine ⟨?_, fun c => absurd rfl c⟩
    show (off / 4#64).toNat < 32
    rw [BitVec.toNat_udiv]
    have e1 : (4#64).toNat = 4 := rfl
    rw [e1]; omega
  split
  · exact ⟨by show (0 : Nat) < 32; decide, fun _ => by show (0 : Nat) < 16; decide⟩
  split
  · rename_i h
    have := lt_of_page n0 n1 (a := 8192) (b := 128) (by decide) (.inl rfl) h.1 h.2.1
    exact ⟨Nat.lt_trans this (by decide), fun _ => this⟩
  split
  · rename_i h
    have := lt_of_page n0 n1 (a := 2097152) (b := 4096) (by decide) (.inr rfl) h.1 h.2.1
    exact ⟨Nat.lt_trans this (by decide), fun _ => this⟩
  split
  · rename_i h
    have := lt_of_page n0 n1 (a := 2097152) (b := 4096) (by decide) (.inr rfl) h.1 h.2.1
    exact ⟨Nat.lt_trans this (by decide), fun _ => this⟩
  · exact ⟨by show (0 : Nat) < 32; decide, fun _ => by show (0 : Nat) < 16; decide⟩
end
end Go.Proofs.Ytfddaaplnnlfoaa
