/- Layer 2's reference product, digit by digit; the law WideProducts. -/
import Derived.Test.YtflcjnekmjdckaaWideN
namespace Go.Proofs.Ytflcjnekmjdckaa
open Go.Am
set_option linter.unusedSimpArgs false
set_option linter.unusedVariables false
noncomputable section

def valL : List Nat → Nat
  | [] => 0
  | d :: r => d + 65536 * valL r
theorem valL_set : ∀ (l : List Nat) (i d : Nat), i < l.length → valL (l.set i d) + l.getD i 0 * 65536 ^ i = valL l + d * 65536 ^ i := by
  intro l
  induction l with
  | nil => intro i d h; simp at h
  | cons x r ih =>
    intro i d h
    cases i with
    | zero => simp [valL]; omega
    | succ i =>
      have := ih i d (by simpa using h)
      have e1 : ∀ y : Nat, y * 65536 ^ (i + 1) = 65536 * (y * 65536 ^ i) := by intro y; rw [Nat.pow_succ, ← Nat.mul_assoc, Nat.mul_comm]
      simp only [List.set_cons_succ, List.getD_cons_succ, valL, e1]
      omega
def lc (l : List Nat) : List Sc := l.map fun d => .u (BitVec.ofNat 64 d)
theorem lc_len {l : List Nat} : (lc l).length = l.length := by simp [lc]
theorem lc_get {l : List Nat} {i : Nat} (h : i < l.length) : (lc l).getD i .any = .u (BitVec.ofNat 64 (l.getD i 0)) := by simp [lc, List.getD_eq_getElem?_getD, h]
theorem lc_isU {l : List Nat} : (lc l).all isU = true := by simp [lc, isU]
theorem lc_bel {l : List Nat} {n : Nat} : (lc l).all (Sc.bel n) = true := by simp [lc, Sc.bel]
theorem lc_set {l : List Nat} {i d : Nat} (h : i < l.length) : (lc l).take i ++ .u (BitVec.ofNat 64 d) :: (lc l).drop (i + 1) = lc (l.set i d) := by
  unfold lc
  rw [List.set_eq_take_append_cons_drop, if_pos h]
  simp [List.map_take, List.map_drop]
def dcell (w : BitVec 64) : List Sc := [.u (w % 65536#64), .u (w / 65536#64 % 65536#64), .u (w / 4294967296#64 % 65536#64), .u (w / 281474976710656#64)]
def dg (w : BitVec 64) (i : Nat) : Nat := w.toNat / 65536 ^ i % 65536
theorem dcell_get (w : BitVec 64) {i : Nat} (h : i < 4) : (dcell w).getD i .any = .u (BitVec.ofNat 64 (dg w i)) := by
  have hw := w.isLt
  rcases (by omega : i = 0 ∨ i = 1 ∨ i = 2 ∨ i = 3) with rfl | rfl | rfl | rfl
  · have : w % 65536#64 = BitVec.ofNat 64 (dg w 0) := BitVec.eq_of_toNat_eq (by unfold dg; simp; omega)
    simp only [dcell, List.getD_cons_zero, this]
  · have : w / 65536#64 % 65536#64 = BitVec.ofNat 64 (dg w 1) := BitVec.eq_of_toNat_eq (by unfold dg; simp; omega)
    simp only [dcell, List.getD_cons_succ, List.getD_cons_zero, this]
  · have : w / 4294967296#64 % 65536#64 = BitVec.ofNat 64 (dg w 2) := BitVec.eq_of_toNat_eq (by unfold dg; simp; omega)
    simp only [dcell, List.getD_cons_succ, List.getD_cons_zero, this]
  · have : w / 281474976710656#64 = BitVec.ofNat 64 (dg w 3) := BitVec.eq_of_toNat_eq (by unfold dg; simp; omega)
    simp only [dcell, List.getD_cons_succ, List.getD_cons_zero, this]
theorem dg_lt (w : BitVec 64) (i : Nat) : dg w i < 65536 := Nat.mod_lt _ (by omega)
theorem mod_succ (x i : Nat) : x % 65536 ^ (i + 1) = x % 65536 ^ i + x / 65536 ^ i % 65536 * 65536 ^ i := by
  rw [Nat.pow_succ, Nat.mod_mul, Nat.mul_comm (65536 ^ i)]
/-- what is reckoned by digit i of one, and k digits of the other -/
def part (a b : BitVec 64) (i k : Nat) : Nat := a.toNat % 65536 ^ i * b.toNat + dg a i * 65536 ^ i * (b.toNat % 65536 ^ k)
theorem part_succ (a b : BitVec 64) (i k : Nat) : part a b i (k + 1) = part a b i k + dg a i * dg b k * 65536 ^ (i + k) := by
  unfold part
  rw [mod_succ b.toNat k, Nat.mul_add, Nat.add_assoc]
  congr 2
  rw [Nat.pow_add]
  show dg a i * 65536 ^ i * (dg b k * 65536 ^ k) = _
  rw [Nat.mul_mul_mul_comm]
theorem part_4 (a b : BitVec 64) (i : Nat) : part a b i 4 = part a b (i + 1) 0 := by
  unfold part
  have hb : b.toNat % 65536 ^ 4 = b.toNat := Nat.mod_eq_of_lt b.isLt
  rw [hb, mod_succ a.toNat i, Nat.pow_zero, Nat.mod_one, Nat.mul_zero, Nat.add_zero, Nat.add_mul]
  rfl
theorem part_le (a b : BitVec 64) (i k : Nat) (hi : i < 4) : part a b i k ≤ a.toNat * b.toNat := by
  have h1 : part a b i k ≤ (a.toNat % 65536 ^ (i + 1)) * b.toNat := by
    unfold part
    rw [mod_succ, Nat.add_mul]
    exact Nat.add_le_add_left (Nat.mul_le_mul_left _ (Nat.mod_le _ _)) _
  exact Nat.le_trans h1 (Nat.mul_le_mul_right _ (Nat.mod_le _ _))
structure Good (l : List Nat) : Prop where
  len : l.length = 8
  lt : ∀ j, l.getD j 0 < 65536
theorem Good.set {l : List Nat} (h : Good l) (i d : Nat) (hd : d < 65536) : Good (l.set i d) := by
  refine ⟨by simp [h.len], fun j => ?_⟩
  have := h.lt j
  rw [List.getD_eq_getElem?_getD] at this ⊢
  rw [List.getElem?_set]
  split
  · split
    · simpa using hd
    · simp
  · exact this
theorem w_lt {x : Nat} (h : x < 18446744073709551616) : (BitVec.ofNat 64 x).toNat = x := by rw [BitVec.toNat_ofNat]; exact Nat.mod_eq_of_lt h
theorem words (l : List Nat) (h : Good l) : (wv (lc l) 4 4).toNat * 18446744073709551616 + (wv (lc l) 0 4).toNat = valL l := by
  obtain ⟨hl, hlt⟩ := h
  match l, hl with
  | [d0, d1, d2, d3, d4, d5, d6, d7], _ =>
    have h0 := hlt 0; have h1 := hlt 1; have h2 := hlt 2; have h3 := hlt 3
    have h4 := hlt 4; have h5 := hlt 5; have h6 := hlt 6; have h7 := hlt 7
    simp only [List.getD_cons_zero, List.getD_cons_succ] at h0 h1 h2 h3 h4 h5 h6 h7
    simp only [wv, lc, List.map_cons, List.map_nil, uOf, List.getD_cons_zero, List.getD_cons_succ, Nat.reduceAdd, Nat.reduceSub, Nat.sub_zero, Nat.sub_self, Nat.add_zero, Nat.zero_add, BitVec.toNat_add, BitVec.toNat_mul, BitVec.toNat_ofNat, valL, Nat.reducePow, Nat.reduceMod, Nat.zero_mod, Nat.zero_mul]
    omega
def s_rtimes (args : List AV) : Option AV :=
  match args with
  | [.c (.u a), .c (.u b)] => some (.t [.c (.u (timesHi a b)), .c (.u (timesLo a b))])
  | _ => none
theorem s_rtimes_eq {a b} : s_rtimes [.c (.u a), .c (.u b)] = some (.t [.c (.u (timesHi a b)), .c (.u (timesLo a b))]) := rfl
set_option maxRecDepth 100000 in
set_option maxHeartbeats 2000000 in
theorem ok_rtimes : PuOk Try.prog 74 s_rtimes := by
  refine pu_ok (tab := [(84, .fp s_digits), (85, .fq s_word)]) hmix (TabOk.cons (e := .fp s_digits) ok_digits (TabOk.cons (e := .fq s_word) ok_word TabOk.nil)) Try.func74 rfl Try.results74 Try.ntmps74 (by kernel_rfl) (by kernel_rfl) ?_
  intro args v h
  unfold s_rtimes at h
  split at h
  · rename_i a b
    simp only [Option.some.injEq] at h; subst h
    refine ⟨by simp only [List.length_cons, List.length_nil]; decide, rfl, rfl, ?_⟩
    have hd : ∀ w : BitVec 64, [.u (w % 65536#64), .u (w / 65536#64 % 65536#64), .u (w / 4294967296#64 % 65536#64), .u (w / 281474976710656#64)] = dcell w := fun _ => rfl
    have l0 : (List.replicate 8 (Sc.u 0#64)) = lc [0, 0, 0, 0, 0, 0, 0, 0] := rfl
    have fin : ∀ l, Good l → valL l = part a b 4 0 → wv (lc l) 4 4 = timesHi a b ∧ wv (lc l) 0 4 = timesLo a b := by
      intro l hg hv
      have hw := words l hg
      have ht := times_nat a b
      have e : part a b 4 0 = a.toNat * b.toNat := by
        unfold part
        have ha : a.toNat % 65536 ^ 4 = a.toNat := Nat.mod_eq_of_lt a.isLt
        rw [ha, Nat.pow_zero, Nat.mod_one, Nat.mul_zero, Nat.add_zero]
      have l1 := (wv (lc l) 0 4).isLt
      have l2 := (timesLo a b).isLt
      rw [hv, e, ← ht] at hw
      exact ⟨BitVec.eq_of_toNat_eq (by omega), BitVec.eq_of_toNat_eq (by omega)⟩
    have hab : a.toNat * b.toNat < 340282366920938463463374607431768211456 := by
      have := Nat.mul_lt_mul'' a.isLt b.isLt
      omega
    simp (config := { maxSteps := 10000000 }) only [go_sem, seval, s_digits_eq, s_word_eq]
    rw [arun_loop]
    refine ⟨{s : Nat × List Nat // s.1 ≤ 4 ∧ Good s.2 ∧ valL s.2 = part a b s.1 0}, fun s => ([(6, .c (.sl 0 0 4 4)), (7, .c (.sl 1 0 4 4)), (8, .c (.sl 2 0 8 8)), (9, .c (.i s.1.1))], [.vec 1 (dcell a), .vec 1 (dcell b), .vec 1 (lc s.1.2)]), fun s => 4 - s.1.1, ⟨(0, [0, 0, 0, 0, 0, 0, 0, 0]), by omega, ⟨rfl, fun j => by match j with | 0 | 1 | 2 | 3 | 4 | 5 | 6 | 7 => decide | j + 8 => simp [List.getD_eq_getElem?_getD]⟩, by simp [valL, part, Nat.mod_one]⟩, ?_, ?_⟩
    · exact Wk.wk (Nat.zero_le _) (by simp [Am.get]) rfl ⟨.inr rfl, .inr rfl, .inr rfl, trivial⟩ rfl
    · rintro ⟨⟨i, l⟩, hi, hg, hv⟩
      simp only at hi hg hv
      by_cases hlt : i < 4
      · have e1 : w64 ((i : Int) + 1) = ((i + 1 : Nat) : Int) := by rw [w64_of (by omega)]; omega
        have e2 : ((i : Int) < 4) = True := eq_true (by omega)
        have e3 : (0 ≤ (i : Int)) = True := eq_true (by omega)
        have e4 : (i + 1 ≤ 4) = True := eq_true (by omega)
        have ga := dcell_get a hlt
        simp (config := { maxSteps := 10000000 }) only [go_sem, seval, s_digits_eq, s_word_eq, e2]
        rw [arun_loop]
        refine ⟨{s : Nat × List Nat // s.1 ≤ 4 ∧ Good s.2 ∧ valL s.2 = part a b i s.1}, fun s => ([(6, .c (.sl 0 0 4 4)), (7, .c (.sl 1 0 4 4)), (8, .c (.sl 2 0 8 8)), (9, .c (.i i)), (10, .c (.i s.1.1))], [.vec 1 (dcell a), .vec 1 (dcell b), .vec 1 (lc s.1.2)]), fun s => 4 - s.1.1, ⟨(0, l), by omega, hg, hv⟩, ?_, ?_⟩
        · exact Wk.wk (Nat.zero_le _) (by simp [Am.get]) rfl ⟨.inr rfl, .inr rfl, .inr rfl, trivial⟩ (by simp [AObj.cells, AObj.scs, lc_bel, dcell, Sc.bel])
        · rintro ⟨⟨k, l⟩, hk, hg, hv⟩
          simp only at hk hg hv
          by_cases hlk : k < 4
          · have k1 : w64 ((k : Int) + 1) = ((k + 1 : Nat) : Int) := by rw [w64_of (by omega)]; omega
            have k2 : ((k : Int) < 4) = True := eq_true (by omega)
            have k3 : (0 ≤ (k : Int)) = True := eq_true (by omega)
            have k4 : (k + 1 ≤ 4) = True := eq_true (by omega)
            have k5 : w64 ((i : Int) + (k : Int)) = ((i + k : Nat) : Int) := by rw [w64_of (by omega)]; omega
            have gb := dcell_get b hlk
            have da : (dcell a).length = 4 := rfl
            have db : (dcell b).length = 4 := rfl
            have hx := dg_lt a i
            have hy := dg_lt b k
            have hxy : dg a i * dg b k ≤ 4294836225 := by
              have := Nat.mul_le_mul (show dg a i ≤ 65535 by omega) (show dg b k ≤ 65535 by omega)
              omega
            have hm : BitVec.ofNat 64 (dg a i) * BitVec.ofNat 64 (dg b k) = BitVec.ofNat 64 (dg a i * dg b k) := by
              apply BitVec.eq_of_toNat_eq
              rw [BitVec.toNat_mul, w_lt (by omega), w_lt (by omega), w_lt (by omega)]
              omega
            have hps := part_succ a b i k
            have hle := part_le a b i (k + 1) hlt
            simp (config := { maxSteps := 10000000 }) only [go_sem, seval, s_digits_eq, s_word_eq, e2, k2, k3, k4, k5, e3, e4, da, db, ga, gb, hm]
            rw [arun_loop]
            refine ⟨{s : Nat × Nat × List Nat // s.2.1 ≤ 8 ∧ Good s.2.2 ∧ s.1 < 8589934592 ∧ valL s.2.2 + s.1 * 65536 ^ s.2.1 = part a b i (k + 1)}, fun s => ([(6, .c (.sl 0 0 4 4)), (7, .c (.sl 1 0 4 4)), (8, .c (.sl 2 0 8 8)), (9, .c (.i i)), (10, .c (.i k)), (11, .c (.u (BitVec.ofNat 64 s.1.1))), (12, .c (.i s.1.2.1))], [.vec 1 (dcell a), .vec 1 (dcell b), .vec 1 (lc s.1.2.2)]), fun s => 8 - s.1.2.1, ⟨(dg a i * dg b k, i + k, l), by simp only; omega, hg, by simp only; omega, by simp only; omega⟩, ?_, ?_⟩
            · exact Wk.wk (Nat.zero_le _) (by simp [Am.get]) rfl ⟨.inr rfl, .inr rfl, .inr rfl, trivial⟩ (by simp [AObj.cells, AObj.scs, lc_bel, dcell, Sc.bel])
            · rintro ⟨⟨n, at', l⟩, hat, hg, hn, hv⟩
              simp only at hat hg hn hv
              have w8 : (lc l).length = 8 := by rw [lc_len, hg.len]
              by_cases hn0 : 0 < n
              · have n1 : (0#64 < BitVec.ofNat 64 n) = True := eq_true (by rw [BitVec.lt_def, w_lt (x := n) (by omega)]; exact hn0)
                by_cases ha8 : at' < 8
                · have c1 : ((at' : Int) < 8) = True := eq_true (by omega)
                  have c2 : (0 ≤ (at' : Int)) = True := eq_true (by omega)
                  have c3 : (at' + 1 ≤ 8) = True := eq_true (by omega)
                  have c4 : w64 ((at' : Int) + 1) = ((at' + 1 : Nat) : Int) := by rw [w64_of (by omega)]; omega
                  have gl := lc_get (l := l) (i := at') (by rw [hg.len]; exact ha8)
                  have hlt2 := hg.lt at'
                  have s1 : BitVec.ofNat 64 n + BitVec.ofNat 64 (l.getD at' 0) = BitVec.ofNat 64 (n + l.getD at' 0) := (BitVec.ofNat_add ..).symm
                  have s2 : BitVec.ofNat 64 (n + l.getD at' 0) % 65536#64 = BitVec.ofNat 64 ((n + l.getD at' 0) % 65536) := by
                    apply BitVec.eq_of_toNat_eq
                    rw [BitVec.toNat_umod, w_lt (x := n + l.getD at' 0) (by omega), w_lt (x := (n + l.getD at' 0) % 65536) (by omega)]; rfl
                  have s3 : BitVec.ofNat 64 (n + l.getD at' 0) / 65536#64 = BitVec.ofNat 64 ((n + l.getD at' 0) / 65536) := by
                    apply BitVec.eq_of_toNat_eq
                    rw [BitVec.toNat_udiv, w_lt (x := n + l.getD at' 0) (by omega), w_lt (x := (n + l.getD at' 0) / 65536) (by omega)]; rfl
                  have hset := lc_set (l := l) (i := at') (d := (n + l.getD at' 0) % 65536) (by rw [hg.len]; exact ha8)
                  have hvs := valL_set l at' ((n + l.getD at' 0) % 65536) (by rw [hg.len]; exact ha8)
                  have hpw : (n + l.getD at' 0) / 65536 * 65536 ^ (at' + 1) + (n + l.getD at' 0) % 65536 * 65536 ^ at' = n * 65536 ^ at' + l.getD at' 0 * 65536 ^ at' := by
                    have e6 : (n + l.getD at' 0) / 65536 * 65536 ^ (at' + 1) = (n + l.getD at' 0) / 65536 * 65536 * 65536 ^ at' := by
                      rw [Nat.pow_succ, Nat.mul_comm (65536 ^ at'), Nat.mul_assoc]
                    rw [e6, ← Nat.add_mul, ← Nat.add_mul]
                    congr 1; omega
                  simp (config := { maxSteps := 10000000 }) only [go_sem, seval, s_digits_eq, s_word_eq, n1, c1, c2, c3, c4, w8, gl, s1, s2, s3]
                  rw [hset]
                  refine ⟨⟨((n + l.getD at' 0) / 65536, at' + 1, l.set at' ((n + l.getD at' 0) % 65536)), by simp only; omega, hg.set _ _ (by omega), by simp only; omega, by simp only; omega⟩, by simp only; omega, ?_⟩
                  exact Wk.wk (Nat.zero_le _) (by simp [Am.get]) rfl ⟨.inr rfl, .inr rfl, .inr rfl, trivial⟩ (by simp [AObj.cells, AObj.scs, lc_bel, dcell, Sc.bel])
                · exfalso
                  obtain rfl : at' = 8 := by omega
                  have : (65536 : Nat) ^ 8 = 340282366920938463463374607431768211456 := by decide
                  rw [this] at hv
                  omega
              · obtain rfl : n = 0 := by omega
                have n1 : (0#64 < BitVec.ofNat 64 0) = False := eq_false (by simp)
                have n2 : (0#64 < 0#64) = False := eq_false (by simp)
                simp (config := { maxSteps := 10000000 }) only [go_sem, seval, s_digits_eq, s_word_eq, n1, n2, k1]
                refine ⟨⟨(k + 1, l), by simp only; omega, hg, by simp only; omega⟩, by simp only; omega, ?_⟩
                exact Wk.wk (Nat.zero_le _) (by simp [Am.get]) rfl ⟨.inr rfl, .inr rfl, .inr rfl, trivial⟩ (by simp [AObj.cells, AObj.scs, lc_bel, dcell, Sc.bel])
          · obtain rfl : k = 4 := by omega
            have k2 : ((4 : Int) < 4) = False := by simp
            have hp := part_4 a b i
            simp (config := { maxSteps := 10000000 }) only [go_sem, seval, s_digits_eq, s_word_eq, k2, e1]
            refine ⟨⟨(i + 1, l), by simp only; omega, hg, by rw [hv, hp]⟩, by simp only; omega, ?_⟩
            exact Wk.wk (Nat.zero_le _) (by simp [Am.get]) rfl ⟨.inr rfl, .inr rfl, .inr rfl, trivial⟩ (by simp [AObj.cells, AObj.scs, lc_bel, dcell, Sc.bel])
      · obtain rfl : i = 4 := by omega
        have e2 : ((4 : Int) < 4) = False := by simp
        obtain ⟨f1, f2⟩ := fin l hg hv
        have w8 : (lc l).length = 8 := by rw [lc_len, hg.len]
        simp (config := { maxSteps := 10000000 }) only [go_sem, seval, s_digits_eq, s_word_eq, e2, w8, lc_isU, f1, f2]
  · simp at h

theorem bel_neg (a : BitVec 64) : belowU a = decide (a.toInt < 0) := below_neg
def rhighU (a b : BitVec 64) (s : Int) : BitVec 64 := timesHi a b - dropU (0 < s ∧ a.toInt < 0) b - dropU (1 < s ∧ b.toInt < 0) a
def s_rhigh (args : List AV) : Option AV :=
  match args with
  | [.c (.u a), .c (.u b), .c (.i s)] => some (.c (.u (rhighU a b s)))
  | _ => none
theorem s_rhigh_eq {a b s} : s_rhigh [.c (.u a), .c (.u b), .c (.i s)] = some (.c (.u (rhighU a b s))) := rfl
set_option maxRecDepth 100000 in
set_option maxHeartbeats 2000000 in
theorem ok_rhigh : PuOk Try.prog 75 s_rhigh := by
  refine pu_ok (tab := [(74, .pu s_rtimes), (86, .pu s_below)]) hmix (TabOk.cons (e := .pu s_rtimes) ok_rtimes (TabOk.cons (e := .pu s_below) ok_below TabOk.nil)) Try.func75 rfl Try.results75 Try.ntmps75 (by kernel_rfl) (by kernel_rfl) ?_
  intro args v h
  unfold s_rhigh at h
  split at h
  · rename_i a b s
    simp only [Option.some.injEq] at h; subst h
    refine ⟨by simp only [List.length_cons, List.length_nil]; decide, rfl, rfl, ?_⟩
    have z : ∀ x : BitVec 64, x - 0#64 = x := fun x => BitVec.sub_zero x
    by_cases h1 : 0 < s
    all_goals by_cases h2 : 1 < s
    all_goals by_cases ha : a.toInt < 0
    all_goals by_cases hb : b.toInt < 0
    all_goals try (exfalso; omega)
    all_goals simp (config := { maxSteps := 10000000 }) only [go_sem, seval, s_rtimes_eq, s_below_eq, rhighU, dropU, bel_neg, h1, h2, ha, hb, z]
  · simp at h

end
end Go.Proofs.Ytflcjnekmjdckaa
