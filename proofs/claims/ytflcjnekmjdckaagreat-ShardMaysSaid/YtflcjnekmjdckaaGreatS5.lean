/- The law SplitBack. -/
import Derived.Test.YtflcjnekmjdckaaGreatS4
namespace Go.Proofs.YtflcjnekmjdckaaGreat
open Go.Am
set_option linter.unusedSimpArgs false
set_option linter.unusedVariables false
noncomputable section

def pcP (a : BitVec 64) (n s : Int) : List Pc := if n ≤ (left a : Int) then [⟨a, n, s⟩] else [⟨a, left a, s⟩, ⟨a + BitVec.ofInt 64 (left a), n - left a, s + 8 * left a⟩]
theorem pcs_P (a : BitVec 64) (n s : Int) : pcs a n s = (pcP a n s).flatMap encP := by unfold pcs pcP; split <;> rfl
theorem pcN_P (a : BitVec 64) (n s : Int) : pcN a n = (pcP a n s).length := by unfold pcN pcP; split <;> rfl
def accP (a b : BitVec 64) (c s : Int) : List Pc := if smB c s = true then (if c = 0 then pcP a s 0 else pcP a c 0 ++ pcP b (s - c) (8 * c)) else []
theorem accL_P (a b : BitVec 64) (c s : Int) : accL a b c s = (accP a b c s).flatMap encP := by
  unfold accL accP
  split
  · split
    · exact pcs_P _ _ _
    · rw [List.flatMap_append, pcs_P, pcs_P]
  · rfl
theorem accN_P (a b : BitVec 64) (c s : Int) : accN a b c s = (accP a b c s).length := by
  unfold accN accP
  split
  · split
    · exact pcN_P _ _ _
    · rw [List.length_append, pcN_P a c 0, pcN_P b (s - c) (8 * c)]
  · rfl
def byteU (a b : BitVec 64) (c i : Int) : BitVec 64 := if 0 < c ∧ c ≤ i then b + BitVec.ofInt 64 (i - c) else a + BitVec.ofInt 64 i
def s_rbyte (args : List AV) : Option AV :=
  match args with
  | [.g [.u a, .u b, .i c, .i s], .c (.i i)] => if 0 ≤ c ∧ c ≤ 8 ∧ 0 ≤ i ∧ i ≤ 8 then some (.c (.u (byteU a b c i))) else none
  | _ => none
theorem s_rbyte_eq {a b c s i} : s_rbyte [.g [.u a, .u b, .i c, .i s], .c (.i i)] = if 0 ≤ c ∧ c ≤ 8 ∧ 0 ≤ i ∧ i ≤ 8 then some (.c (.u (byteU a b c i))) else none := rfl
set_option maxRecDepth 100000 in
set_option maxHeartbeats 2000000 in
theorem ok_rbyte : PuOk Tryz.prog 41 s_rbyte := by
  refine pu_ok (tab := []) hmix TabOk.nil Tryz.func41 rfl Tryz.results41 Tryz.ntmps41 (by kernel_rfl) (by kernel_rfl) ?_
  intro args v h
  unfold s_rbyte at h
  split at h
  · rename_i a b c s i
    split at h
    · rename_i hc
      simp only [Option.some.injEq] at h; subst h
      refine ⟨by simp only [List.length_cons, List.length_nil]; decide, rfl, rfl, ?_⟩
      by_cases h1 : 0 < c
      all_goals by_cases h2 : c ≤ i
      all_goals (try simp (config := { maxSteps := 10000000 }) only [go_sem, seval, byteU, h1, h2, and_false, false_and]; repeat (simp (disch := omega) only [w64_d, ipos, ineg, dpos, dneg]; try simp (config := { maxSteps := 10000000 }) only [go_sem, seval, byteU, h1, h2, and_false, false_and]))
    · simp at h
  · simp at h
/-- pieces that are a number's bytes, one behind the other, each in one line -/
def good (B : Int → BitVec 64) : List Pc → Int → Prop
  | [], _ => True
  | p :: l, m => p.s = 8 * m ∧ 1 ≤ p.n ∧ m + p.n ≤ 8 ∧ p.a = B m ∧ (p.a + BitVec.ofInt 64 (p.n - 1)) / 64#64 = p.a / 64#64 ∧ good B l (m + p.n)
def tot : List Pc → Int
  | [] => 0
  | p :: l => p.n + tot l
theorem tot_app (l r : List Pc) : tot (l ++ r) = tot l + tot r := by
  induction l with
  | nil => simp [tot]
  | cons p l ih => simp only [List.cons_append, tot, ih]; omega
theorem good_app {B : Int → BitVec 64} {l r : List Pc} {m : Int} (h1 : good B l m) (h2 : good B r (m + tot l)) : good B (l ++ r) m := by
  induction l generalizing m with
  | nil => simpa [tot] using h2
  | cons p l ih =>
    obtain ⟨a1, a2, a3, a4, a5, a6⟩ := h1
    refine ⟨a1, a2, a3, a4, a5, ih a6 ?_⟩
    simp only [tot] at h2
    rwa [show m + p.n + tot l = m + (p.n + tot l) by omega]
theorem good_at {B : Int → BitVec 64} {l : List Pc} {m : Int} (h : good B l m) {k : Nat} {p : Pc} (hp : l[k]? = some p) :
    p.s = 8 * (m + tot (l.take k)) ∧ 1 ≤ p.n ∧ (m + tot (l.take k)) + p.n ≤ 8 ∧ p.a = B (m + tot (l.take k)) ∧ (p.a + BitVec.ofInt 64 (p.n - 1)) / 64#64 = p.a / 64#64 := by
  induction l generalizing m k with
  | nil => simp at hp
  | cons q l ih =>
    obtain ⟨a1, a2, a3, a4, a5, a6⟩ := h
    cases k with
    | zero =>
      simp only [List.getElem?_cons_zero, Option.some.injEq] at hp
      subst hp
      simp only [List.take_zero, tot, Int.add_zero]
      exact ⟨a1, a2, a3, a4, a5⟩
    | succ k =>
      have := ih a6 (by simpa using hp)
      simp only [List.take_succ_cons, tot]
      rwa [show m + (q.n + tot (l.take k)) = m + q.n + tot (l.take k) by omega]
theorem tot_nn {B : Int → BitVec 64} {l : List Pc} {m : Int} (h : good B l m) (k : Nat) : 0 ≤ tot (l.take k) := by
  induction l generalizing m k with
  | nil => simp [tot]
  | cons q l ih =>
    cases k with
    | zero => simp [tot]
    | succ k => have := ih h.2.2.2.2.2 k; have := h.2.1; simp only [List.take_succ_cons, tot]; omega
theorem line_same (a : BitVec 64) (k : Int) (h0 : 0 ≤ k) (hk : k < left a) : (a + BitVec.ofInt 64 k) / 64#64 = a / 64#64 := by
  have ha := a.isLt
  unfold left at hk
  have e0 : (BitVec.ofInt 64 k).toNat = k.toNat := by rw [BitVec.toNat_ofInt]; omega
  have e : (64#64).toNat = 64 := rfl
  apply BitVec.eq_of_toNat_eq
  rw [BitVec.toNat_udiv, BitVec.toNat_udiv, BitVec.toNat_add, e0, e]
  omega
theorem left_al (a : BitVec 64) : left (a + BitVec.ofInt 64 (left a)) = 64 := by
  have ha := a.isLt
  have e0 : (BitVec.ofInt 64 (left a : Int)).toNat = left a := ofI_nat (by unfold left; omega)
  have h : (a + BitVec.ofInt 64 (left a)).toNat % 64 = 0 := by rw [BitVec.toNat_add, e0]; unfold left; omega
  unfold left at h ⊢
  omega
theorem good_pc {B : Int → BitVec 64} {a : BitVec 64} {n m : Int} (hn : 1 ≤ n) (hm : m + n ≤ 8) (h0 : 0 ≤ m) (hB : ∀ j, 0 ≤ j → j < n → B (m + j) = a + BitVec.ofInt 64 j) : good B (pcP a n (8 * m)) m ∧ tot (pcP a n (8 * m)) = n ∧ (pcP a n (8 * m)).length ≤ 2 := by
  have hl : 1 ≤ left a ∧ left a ≤ 64 := by unfold left; omega
  have b0 : a = B m := by
    have := hB 0 (by omega) (by omega)
    rw [Int.add_zero] at this
    rw [this]; exact (BitVec.add_zero _).symm
  unfold pcP
  split
  · rename_i h
    refine ⟨⟨rfl, hn, hm, b0, line_same _ _ (by simp only; omega) (by simp only; omega), trivial⟩, by simp [tot], by simp⟩
  · rename_i h
    refine ⟨⟨rfl, by simp only; omega, by simp only; omega, b0, line_same _ _ (by simp only; omega) (by simp only; omega), by simp only; omega, by simp only; omega, by simp only; omega, ?_, ?_, trivial⟩, by simp only [tot]; omega, by simp⟩
    · simp only; rw [hB _ (by omega) (by omega)]
    · refine line_same _ _ (by simp only; omega) ?_
      simp only; rw [left_al]; omega
theorem good_acc {a b : BitVec 64} {c s : Int} (h : smB c s = true) : good (byteU a b c) (accP a b c s) 0 ∧ tot (accP a b c s) = s ∧ (accP a b c s).length ≤ 4 := by
  have hm : 1 ≤ s ∧ s ≤ 8 ∧ 0 ≤ c ∧ c < s := by simpa [smB] using h
  unfold accP
  rw [if_pos h]
  split
  · rename_i hc
    subst hc
    have := good_pc (B := byteU a b 0) (a := a) (n := s) (m := 0) (by omega) (by omega) (by omega) (fun j h0 h1 => by unfold byteU; rw [if_neg (by omega), Int.zero_add])
    exact ⟨this.1, this.2.1, by have := this.2.2; simp only [Int.mul_zero] at this; omega⟩
  · rename_i hc
    obtain ⟨g1, g2, g3⟩ := good_pc (B := byteU a b c) (a := a) (n := c) (m := 0) (by omega) (by omega) (by omega) (fun j h0 h1 => by unfold byteU; rw [if_neg (by omega), Int.zero_add])
    obtain ⟨k1, k2, k3⟩ := good_pc (B := byteU a b c) (a := b) (n := s - c) (m := c) (by omega) (by omega) (by omega) (fun j h0 h1 => by unfold byteU; rw [if_pos (by omega), show c + j - c = j by omega])
    simp only [Int.mul_zero] at g1 g2 g3
    refine ⟨good_app g1 (by rw [g2, Int.zero_add]; exact k1), by rw [tot_app]; omega, by rw [List.length_append]; omega⟩
theorem part_join {v : BitVec 64} {m n : Int} (h0 : 0 ≤ m) (h1 : 1 ≤ n) (h8 : m + n ≤ 8) (a : BitVec 64) : jn1 (lowU v (8 * m)) ⟨a, n, 8 * m⟩ (partU v n (8 * m)) = lowU v (8 * (m + n)) := by
  have hr : rightB n (8 * m) = true := by rw [right_iff]; omega
  unfold jn1
  rw [if_pos hr, partU, if_pos hr]
  refine BitVec.eq_of_getLsbD_eq fun i hi => ?_
  unfold putU lowU
  rw [ofG_get hi, ofG_get hi, ofG_get hi]
  unfold inP
  by_cases h2 : 8 * m ≤ (i : Int) ∧ (i : Int) < 8 * m + 8 * n
  · rw [if_pos (by simpa using h2)]
    have e : bitB (cutU v (8 * m) (8 * n)) ((i : Int) - 8 * m) = v.getLsbD i := by
      rw [show (i : Int) - 8 * m = ((i - (8 * m).toNat : Nat) : Int) by omega, bitB_n]
      unfold cutU
      rw [ofG_get (by omega), decide_eq_true (by omega), show 8 * m + ((i - (8 * m).toNat : Nat) : Int) = (i : Int) by omega, bitB_n]
      rfl
    rw [e, decide_eq_true (by omega)]; rfl
  · rw [if_neg (by simpa using h2)]
    by_cases h3 : (i : Int) < 8 * m
    · rw [decide_eq_true h3, decide_eq_true (by omega)]
    · rw [decide_eq_false h3, decide_eq_false (by omega)]
theorem join_back {B : Int → BitVec 64} {v : BitVec 64} {l : List Pc} {m : Int} (h : good B l m) (h0 : 0 ≤ m) : jnU l (l.map fun p => partU v p.n p.s) (lowU v (8 * m)) = lowU v (8 * (m + tot l)) := by
  induction l generalizing m with
  | nil => simp [jnU, tot]
  | cons p l ih =>
    obtain ⟨a1, a2, a3, a4, a5, a6⟩ := h
    simp only [List.map_cons, jnU, tot]
    have e : p = ⟨p.a, p.n, 8 * m⟩ := by rw [← a1]
    have := part_join (v := v) h0 a2 a3 p.a
    rw [a1, show jn1 (lowU v (8 * m)) p (partU v p.n (8 * m)) = lowU v (8 * (m + p.n)) by rw [← this]; exact congrArg (fun q => jn1 (lowU v (8 * m)) q (partU v p.n (8 * m))) e]
    rw [ih a6 (by omega)]
    congr 1; omega
theorem low_0 (v : BitVec 64) : lowU v 0 = 0#64 := BitVec.eq_of_getLsbD_eq fun i hi => by unfold lowU; rw [ofG_get hi, decide_eq_false (by omega)]; simp
theorem want_eq (v : BitVec 64) (s : Int) (h : 1 ≤ s ∧ s ≤ 8) : (if s < 8 then v &&& (1#64 <<< (BitVec.ofInt 64 (8 * s)).toNat - 1#64) else v) = lowU v (8 * s) := by
  obtain ⟨k, rfl⟩ := Int.eq_ofNat_of_zero_le (by omega : 0 ≤ s)
  refine BitVec.eq_of_getLsbD_eq fun i hi => ?_
  unfold lowU; rw [ofG_get hi]
  split
  · rename_i h8
    have e0 : (BitVec.ofInt 64 (8 * (k : Int))).toNat = 8 * k := by rw [BitVec.toNat_ofInt]; omega
    have e1 : (1#64 <<< (8 * k) - 1#64).toNat = 2 ^ (8 * k) - 1 := by
      have hp : 2 ^ (8 * k) < 2 ^ 64 := Nat.pow_lt_pow_right (by decide) (by omega)
      have hp1 : 1 ≤ 2 ^ (8 * k) := Nat.one_le_two_pow
      have e2 : (1#64 <<< (8 * k)).toNat = 2 ^ (8 * k) := by
        rw [BitVec.toNat_shiftLeft, Nat.shiftLeft_eq, Nat.mod_eq_of_lt (by simpa using hp)]; simp
      rw [BitVec.toNat_sub, e2]
      have : (1#64).toNat = 1 := rfl
      rw [this]; omega
    rw [e0, BitVec.getLsbD_and]
    have : (1#64 <<< (8 * k) - 1#64).getLsbD i = decide (i < 8 * k) := by
      unfold BitVec.getLsbD; rw [e1, Nat.testBit_two_pow_sub_one]
    rw [this, Bool.and_comm, show decide ((i : Int) < 8 * (k : Int)) = decide (i < 8 * k) from decide_eq_decide.2 (by omega)]
  · rw [decide_eq_true (by omega)]; simp

end
end Go.Proofs.YtflcjnekmjdckaaGreat
