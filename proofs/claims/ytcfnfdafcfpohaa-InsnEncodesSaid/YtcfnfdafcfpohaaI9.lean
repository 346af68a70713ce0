/- Layer 3: a word has one op at most: plain laws. -/
import Derived.Test.YtcfnfdafcfpohaaI8
namespace Go.Proofs.Ytcfnfdafcfpohaa
open Go.Am
set_option linter.unusedSimpArgs false
set_option linter.unusedVariables false
noncomputable section

theorem hitB_iff {b : BitVec 32} {op : Int} {m v : BitVec 32} (hm : fixM op = (m.toNat : Int)) (hv : fixV op = (v.toNat : Int)) : (hitB (b.toNat : Int) op = true) = (b &&& m = v) := by
  unfold hitB
  rw [hm, hv, andB]
  apply propext
  rw [decide_eq_true_eq]
  constructor
  · intro h; apply BitVec.eq_of_toNat_eq; omega
  · intro h; rw [h]
def mB (op : Int) : BitVec 32 := BitVec.ofInt 32 (fixM op)
def vB (op : Int) : BitVec 32 := BitVec.ofInt 32 (fixV op)
theorem mv_eq {op : Int} (h : 0 ≤ op ∧ op ≤ 98) : fixM op = ((mB op).toNat : Int) ∧ fixV op = ((vB op).toNat : Int) := by
  obtain ⟨i, rfl⟩ : ∃ i : Nat, op = (i : Int) := ⟨op.toNat, by omega⟩
  obtain ⟨a1, a2, a3, a4⟩ := tab_eq i (by omega)
  unfold mB vB
  rw [a1, a2, BitVec.toNat_ofInt, BitVec.toNat_ofInt]
  constructor <;> omega
theorem hit_one {b : BitVec 32} {o p : Int} (ho : 1 ≤ o ∧ o ≤ 98) (hp : 1 ≤ p ∧ p ≤ 98) (h1 : hitB (b.toNat : Int) o = true) (h2 : hitB (b.toNat : Int) p = true) : o = p := by
  rcases Classical.em (o = p) with h | h
  · exact h
  · exfalso
    obtain ⟨e, _, _⟩ := apart ho hp h
    obtain ⟨m1, v1⟩ := mv_eq (op := o) (by omega)
    obtain ⟨m2, v2⟩ := mv_eq (op := p) (by omega)
    rw [hitB_iff m1 v1] at h1
    rw [hitB_iff m2 v2] at h2
    rw [m1, m2, v1, v2, ← h1, ← h2] at e
    apply e
    have x : xorK ((b &&& mB o).toNat : Int) ((b &&& mB p).toNat : Int) = (((b &&& mB o) ^^^ (b &&& mB p)).toNat : Int) := by unfold xorK; rw [o32, o32, w32b]
    rw [x, andB, andB]
    have : ((b &&& mB o) ^^^ (b &&& mB p)) &&& mB o &&& mB p = 0#32 := by
      apply BitVec.eq_of_getLsbD_eq
      intro i hi
      simp only [BitVec.getLsbD_and, BitVec.getLsbD_xor, BitVec.getLsbD_zero]
      cases b.getLsbD i <;> cases (mB o).getLsbD i <;> cases (mB p).getLsbD i <;> rfl
    rw [this]; rfl
theorem seek_hit {w : Int} {L : List Int} (h : pairF w L < L.length / 2) : ∃ j, j < L.length / 2 ∧ lg L (2 * j) ≤ seekT w L ∧ seekT w L ≤ lg L (2 * j + 1) ∧ hitB w (seekT w L) = true := by
  refine ⟨pairF w L, h, ?_⟩
  have e : seekT w L = lg L (2 * pairF w L) + rngF w (lg L (2 * pairF w L)) (lg L (2 * pairF w L + 1)) := if_pos h
  rw [e]
  have p1 := fstN_hit (p := fun j => decide (rngF w (lg L (2 * j)) (lg L (2 * j + 1)) < rngN (lg L (2 * j)) (lg L (2 * j + 1)))) h
  change decide (rngF w (lg L (2 * pairF w L)) (lg L (2 * pairF w L + 1)) < rngN (lg L (2 * pairF w L)) (lg L (2 * pairF w L + 1))) = true at p1
  rw [decide_eq_true_eq] at p1
  have p2 := fstN_hit (p := fun k => hitB w (lg L (2 * pairF w L) + (k : Nat))) p1
  refine ⟨by omega, by unfold rngN at p1; omega, p2⟩
theorem seek_no {w : Int} {L : List Int} (h : ¬ pairF w L < L.length / 2) {j : Nat} (hj : j < L.length / 2) {op : Int} (h1 : lg L (2 * j) ≤ op) (h2 : op ≤ lg L (2 * j + 1)) : hitB w op = false := by
  have l1 := fstN_le (fun j => decide (rngF w (lg L (2 * j)) (lg L (2 * j + 1)) < rngN (lg L (2 * j)) (lg L (2 * j + 1)))) (L.length / 2)
  have p1 := fstN_not (p := fun j => decide (rngF w (lg L (2 * j)) (lg L (2 * j + 1)) < rngN (lg L (2 * j)) (lg L (2 * j + 1)))) (n := L.length / 2) (k := j) (by unfold pairF at h; omega)
  rw [decide_eq_false_iff_not] at p1
  have p2 := fstN_not (p := fun k => hitB w (lg L (2 * j) + (k : Nat))) (n := rngN (lg L (2 * j)) (lg L (2 * j + 1))) (k := (op - lg L (2 * j)).toNat) (by unfold rngF at p1; unfold rngN at *; omega)
  have : lg L (2 * j) + (((op - lg L (2 * j)).toNat : Nat) : Int) = op := by omega
  simp only [this] at p2
  exact p2
def brL (c : Int) : List Int :=
  if c = 55 then [1, 1] else if c = 23 then [2, 2] else if c = 111 then [3, 3] else if c = 103 then [4, 4] else if c = 99 then [5, 10] else if c = 3 then [11, 17] else if c = 35 then [18, 21] else
  if c = 19 then [22, 30] else if c = 15 then [50, 51] else if c = 47 then [67, 88] else if c = 51 ∨ c = 27 ∨ c = 59 ∨ c = 115 then [31, 66, 89, 98] else []
theorem find_br (w : Int) : findT w = if andK w 127 = 55 then 1 else if andK w 127 = 23 then 2 else if andK w 127 = 111 then 3 else seekT w (brL (andK w 127)) := by
  unfold findT
  generalize andK w 127 = c
  split
  · rfl
  split
  · rfl
  split
  · rfl
  repeat' split
  all_goals simp [brL, *]
  all_goals rfl
def okL (L : List Int) : Prop := ∀ j, j < L.length / 2 → 1 ≤ lg L (2 * j) ∧ lg L (2 * j + 1) ≤ 98
theorem okL_ite {c : Prop} [Decidable c] {a b : List Int} (ha : okL a) (hb : okL b) : okL (if c then a else b) := by split <;> assumption
theorem okL_2 {a b : Int} (h : 1 ≤ a ∧ b ≤ 98) : okL [a, b] := by
  intro j hj
  obtain rfl : j = 0 := by simp at hj; omega
  exact h
theorem brL_in (c : Int) : okL (brL c) := by
  unfold brL
  repeat' apply okL_ite
  all_goals first
    | exact okL_2 (by decide)
    | (intro j hj; simp only [List.length_cons, List.length_nil] at hj; rcases (by omega : j = 0 ∨ j = 1) with rfl | rfl <;> decide)
    | (intro j hj; simp at hj)
def inBr (L : List Int) (op : Int) : Bool := (List.range (L.length / 2)).any fun j => decide (lg L (2 * j) ≤ op) && decide (op ≤ lg L (2 * j + 1))
theorem tab_br : ∀ i : Nat, i < 98 → inBr (brL (andK (fixV ((i + 1 : Nat) : Int)) 127)) ((i + 1 : Nat) : Int) = true ∧ mB ((i + 1 : Nat) : Int) &&& 127#32 = 127#32 := by decide +kernel
theorem seek_br {w : Int} (h : seekT w (brL (andK w 127)) ≠ 0) : 1 ≤ seekT w (brL (andK w 127)) ∧ seekT w (brL (andK w 127)) ≤ 98 ∧ hitB w (seekT w (brL (andK w 127))) = true := by
  have hp : pairF w (brL (andK w 127)) < (brL (andK w 127)).length / 2 := by
    rcases Nat.lt_or_ge (pairF w (brL (andK w 127))) ((brL (andK w 127)).length / 2) with h1 | h1
    · exact h1
    · exact absurd (if_neg (by omega)) h
  obtain ⟨j, h1, h2, h3, h4⟩ := seek_hit hp
  have := brL_in _ j h1
  exact ⟨by omega, by omega, h4⟩
theorem hit_123 {w : Int} : (andK w 127 = 55 → hitB w 1 = true) ∧ (andK w 127 = 23 → hitB w 2 = true) ∧ (andK w 127 = 111 → hitB w 3 = true) := by
  have e : fixM 1 = 127 ∧ fixV 1 = 55 ∧ fixM 2 = 127 ∧ fixV 2 = 23 ∧ fixM 3 = 127 ∧ fixV 3 = 111 := by decide +kernel
  obtain ⟨a, b, c, d, f, g⟩ := e
  unfold hitB
  rw [a, b, c, d, f, g]
  simp
theorem find_hit {w : Int} (h : findT w ≠ 0) : 1 ≤ findT w ∧ findT w ≤ 98 ∧ hitB w (findT w) = true := by
  obtain ⟨a, b, c⟩ := hit_123 (w := w)
  rw [find_br] at h ⊢
  split
  · exact ⟨by omega, by omega, a ‹_›⟩
  split
  · exact ⟨by omega, by omega, b ‹_›⟩
  split
  · exact ⟨by omega, by omega, c ‹_›⟩
  rename_i h1 h2 h3
  rw [if_neg h1, if_neg h2, if_neg h3] at h
  exact seek_br h
theorem hit_find {b : BitVec 32} {op : Int} (ho : 1 ≤ op ∧ op ≤ 98) (h : hitB (b.toNat : Int) op = true) : findT (b.toNat : Int) = op := by
  have nz : findT (b.toNat : Int) ≠ 0 := by
    obtain ⟨i, rfl⟩ : ∃ i : Nat, op = ((i + 1 : Nat) : Int) := ⟨(op - 1).toNat, by omega⟩
    obtain ⟨t1, t2⟩ := tab_br i (by omega)
    obtain ⟨m1, v1⟩ := mv_eq (op := ((i + 1 : Nat) : Int)) (by omega)
    have h' := h
    rw [hitB_iff m1 v1] at h'
    have c : andK (b.toNat : Int) 127 = andK (fixV ((i + 1 : Nat) : Int)) 127 := by
      have q : (127 : Int) = ((127#32).toNat : Int) := rfl
      rw [v1, q, andB, andB, ← h', BitVec.and_assoc, t2]
    rw [find_br]
    split
    · decide
    split
    · decide
    split
    · decide
    intro hz
    rw [← c] at t1
    simp only [inBr, List.any_eq_true, List.mem_range, Bool.and_eq_true, decide_eq_true_eq] at t1
    obtain ⟨j, hj, l1, l2⟩ := t1
    by_cases hp : pairF (b.toNat : Int) (brL (andK (b.toNat : Int) 127)) < (brL (andK (b.toNat : Int) 127)).length / 2
    · obtain ⟨j', h1, h2, h3, h4⟩ := seek_hit hp
      have := brL_in _ j' h1
      omega
    · have := seek_no hp hj l1 l2
      rw [h] at this
      exact absurd this (by decide)
  obtain ⟨a, c, d⟩ := find_hit nz
  exact hit_one ⟨a, c⟩ ho d h
end
end Go.Proofs.Ytcfnfdafcfpohaa
