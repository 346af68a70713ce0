/- The clock of a bus: what stands in it: plain. -/
import Derived.Test.YtfddaaplnnlfoaaQ0
namespace Go.Proofs.Ytfddaaplnnlfoaa
open Go.Am
set_option linter.unusedSimpArgs false
set_option linter.unusedVariables false
noncomputable section

structure Ck where
  n : Int
  t : BitVec 64
  c : List (BitVec 64)
  s : List Bool
def ckC (x : Ck) : List Sc := .i x.n :: .u x.t :: (x.c.map Sc.u ++ x.s.map Sc.b)
structure CkOk (x : Ck) : Prop where
  c : x.c.length = 8
  s : x.s.length = 8
  n0 : 0 ≤ x.n
  n1 : x.n ≤ 8
theorem ckC_l {x : Ck} (h : CkOk x) : (ckC x).length = 18 := by simp [ckC, h.c, h.s]
theorem map_inj {α β : Type} {f : α → β} (hf : ∀ a b, f a = f b → a = b) : ∀ {l m : List α}, l.map f = m.map f → l = m
  | [], [], _ => rfl
  | [], _ :: _, h => by simp at h
  | _ :: _, [], h => by simp at h
  | a :: l, b :: m, h => by
    simp only [List.map_cons, List.cons.injEq] at h
    rw [hf _ _ h.1, map_inj hf h.2]
theorem ck_enc : Enc ckC CkOk 18 := ⟨fun a h => ckC_l h, fun a b ha hb h => by
  simp only [ckC, List.cons.injEq, Sc.i.injEq, Sc.u.injEq] at h
  obtain ⟨h1, h2, h3⟩ := h
  obtain ⟨h4, h5⟩ := List.append_inj h3 (by simp [ha.c, hb.c])
  have h6 := map_inj (fun _ _ h => Sc.u.inj h) h4
  have h7 := map_inj (fun _ _ h => Sc.b.inj h) h5
  cases a; cases b
  simp only at h1 h2 h6 h7
  subst h1 h2 h6 h7
  rfl⟩
theorem ckC_bel (x : Ck) (n : Nat) : (ckC x).all (Sc.bel n) = true := by
  simp only [ckC, List.all_cons, List.all_append, List.all_map, Bool.and_eq_true]
  exact ⟨rfl, rfl, List.all_eq_true.2 fun _ _ => rfl, List.all_eq_true.2 fun _ _ => rfl⟩
theorem ck_0 (x : Ck) : (ckC x).getD 0 .any = .i x.n := rfl
theorem ck_1 (x : Ck) : (ckC x).getD 1 .any = .u x.t := rfl
theorem ck_c {x : Ck} (h : CkOk x) {k : Nat} (hk : k < 8) : (ckC x).getD (2 + k) .any = .u (x.c.getD k 0#64) := by
  simp only [ckC, List.getD_eq_getElem?_getD, Nat.add_comm 2 k, List.getElem?_cons_succ]
  rw [List.getElem?_append_left (by simp [h.c]; omega), List.getElem?_map, List.getElem?_eq_getElem (by have := h.c; omega)]
  rfl
theorem ck_s {x : Ck} (h : CkOk x) {k : Nat} (hk : k < 8) : (ckC x).getD (10 + k) .any = .b (x.s.getD k false) := by
  simp only [ckC, List.getD_eq_getElem?_getD, show 10 + k = (8 + k) + 1 + 1 by omega, List.getElem?_cons_succ]
  rw [List.getElem?_append_right (by simp [h.c]), List.length_map, h.c, Nat.add_sub_cancel_left, List.getElem?_map, List.getElem?_eq_getElem (by have := h.s; omega)]
  rfl
theorem ckw_1 (x : Ck) (v : BitVec 64) : wr (ckC x) 1 [.u v] = ckC { x with t := v } := rfl
theorem ckw_c {x : Ck} (h : CkOk x) {k : Nat} (hk : k < 8) (v : BitVec 64) : wr (ckC x) (2 + k) [.u v] = ckC { x with c := x.c.set k v } := by
  rw [wr_one (by rw [ckC_l h]; omega), Nat.add_comm]
  show .i x.n :: .u x.t :: ((x.c.map Sc.u ++ x.s.map Sc.b).set k (.u v)) = _
  rw [List.set_append_left _ _ (by simp [h.c]; omega), ← List.map_set]; rfl
theorem ckw_s {x : Ck} (h : CkOk x) {k : Nat} (hk : k < 8) (v : Bool) : wr (ckC x) (10 + k) [.b v] = ckC { x with s := x.s.set k v } := by
  rw [wr_one (by rw [ckC_l h]; omega), show 10 + k = (8 + k) + 1 + 1 by omega]
  show .i x.n :: .u x.t :: ((x.c.map Sc.u ++ x.s.map Sc.b).set (8 + k) (.b v)) = _
  rw [List.set_append_right _ _ (by simp [h.c]), List.length_map, h.c, Nat.add_sub_cancel_left, ← List.map_set]; rfl
theorem CkOk.t {x : Ck} (h : CkOk x) (v : BitVec 64) : CkOk { x with t := v } := ⟨h.c, h.s, h.n0, h.n1⟩
theorem CkOk.setC {x : Ck} (h : CkOk x) (k : Nat) (v : BitVec 64) : CkOk { x with c := x.c.set k v } := ⟨by simp [h.c], h.s, h.n0, h.n1⟩
theorem CkOk.setS {x : Ck} (h : CkOk x) (k : Nat) (v : Bool) : CkOk { x with s := x.s.set k v } := ⟨h.c, by simp [h.s], h.n0, h.n1⟩
/-! ### where a register stands -/
structure Ca where
  k : Nat
  h : Nat
  up : BitVec 64
def ckAt (n : Int) (off : BitVec 64) (size : Int) : Ca :=
  if size = 4 ∧ off % 4#64 = 0#64 ∧ off / 4#64 < BitVec.ofInt 64 n then ⟨1, (off / 4#64).toNat, 0#64⟩
  else if (¬ size = 4 ∧ ¬ size = 8) ∨ ¬ off % BitVec.ofInt 64 size = 0#64 then ⟨0, 0, 0#64⟩
  else if 0#64 < BitVec.ofInt 64 n ∧ off - off % 8#64 = 49144#64 then ⟨3, 0, off % 8#64 * 8#64⟩
  else if 16384#64 ≤ off - off % 8#64 ∧ off - off % 8#64 < 16384#64 + 8#64 * BitVec.ofInt 64 n then ⟨2, ((off - off % 8#64 - 16384#64) / 8#64).toNat, off % 8#64 * 8#64⟩
  else ⟨0, 0, 0#64⟩
theorem ckAt_h {n : Int} (n0 : 0 ≤ n) (n1 : n ≤ 8) (off : BitVec 64) (size : Int) : (ckAt n off size).h < 8 := by
  have e : (BitVec.ofInt 64 n).toNat = n.toNat := by rw [BitVec.toNat_ofInt]; omega
  unfold ckAt
  split
  · rename_i h
    have h := h.2.2
    rw [BitVec.lt_def, e] at h
    show (off / 4#64).toNat < 8
    omega
  · split
    · decide
    · split
      · show (0 : Nat) < 8; decide
      · split
        · rename_i h
          obtain ⟨h1, h⟩ := h
          rw [BitVec.lt_def, BitVec.toNat_add, BitVec.toNat_mul, e] at h
          rw [BitVec.le_def] at h1
          have e1 : (16384#64).toNat = 16384 := rfl
          have e2 : (8#64).toNat = 8 := rfl
          rw [e1, e2] at h
          rw [e1] at h1
          show ((off - off % 8#64 - 16384#64) / 8#64).toNat < 8
          rw [BitVec.toNat_udiv, BitVec.toNat_sub, e1, e2]
          omega
        · decide
end
end Go.Proofs.Ytfddaaplnnlfoaa
