/- The reference's bits: what 'Bit' returns, for every input. -/
import Derived.Test.YtcbhelkafelofaaGreatTy
namespace Go.Proofs.YtcbhelkafelofaaGreat
open Go.Am
set_option linter.unusedSimpArgs false
set_option linter.unusedVariables false
noncomputable section

def bitU (w : BitVec 64) (i : Int) : BitVec 64 := if 0 ≤ i ∧ i ≤ 63 then (if w.getLsbD i.toNat then 1#64 else 0#64) else 0#64

end
end Go.Proofs.YtcbhelkafelofaaGreat
namespace Go.Proofs.YtcbhelkafelofaaGreat
open Go.Am
set_option linter.unusedSimpArgs false
set_option linter.unusedVariables false
noncomputable section

structure inR (x : Int) : Prop where
  lo : -9223372036854775808 ≤ x
  hi : x ≤ 9223372036854775807
instance (x : Int) : Decidable (inR x) := decidable_of_iff (-9223372036854775808 ≤ x ∧ x ≤ 9223372036854775807) ⟨fun h => ⟨h.1, h.2⟩, fun h => ⟨h.1, h.2⟩⟩

def ofGn (g : Nat → Bool) : Nat → BitVec 64
  | 0 => 0#64
  | k + 1 => ofGn g k ||| (if g k = true then 1#64 <<< k else 0#64)
theorem ofGn_get (g : Nat → Bool) (k i : Nat) (hi : i < 64) : (ofGn g k).getLsbD i = (decide (i < k) && g i) := by
  induction k with
  | zero => simp [ofGn]
  | succ k ih =>
    simp only [ofGn, BitVec.getLsbD_or, ih]
    by_cases h : i = k
    · subst h
      cases g i <;> simp [hi]
    · have e : decide (i < k + 1) = decide (i < k) := by simp; omega
      rw [e]
      split
      · simp [BitVec.getLsbD_shiftLeft, BitVec.getLsbD_one, hi]
        omega
      · simp
theorem ofG_ex (g : Nat → Bool) : ∃ w : BitVec 64, ∀ i, i < 64 → w.getLsbD i = g i := ⟨ofGn g 64, fun i hi => by rw [ofGn_get _ _ _ hi]; simp [hi]⟩
def ofG (g : Nat → Bool) : BitVec 64 := Classical.choose (ofG_ex g)
theorem ofG_get {g : Nat → Bool} {i : Nat} (hi : i < 64) : (ofG g).getLsbD i = g i := Classical.choose_spec (ofG_ex g) i hi
theorem ofG_ext {w : BitVec 64} {g : Nat → Bool} (h : ∀ i, i < 64 → w.getLsbD i = g i) : w = ofG g := by
  apply BitVec.eq_of_getLsbD_eq
  intro i hi
  rw [h i hi, ofG_get hi]
theorem ofG_congr {g h : Nat → Bool} (e : ∀ i, i < 64 → g i = h i) : ofG g = ofG h := ofG_ext fun i hi => by rw [ofG_get hi, e i hi]

def bitB (w : BitVec 64) (i : Int) : Bool := decide (0 ≤ i) && decide (i ≤ 63) && w.getLsbD i.toNat
def b2 (b : Bool) : BitVec 64 := if b = true then 1#64 else 0#64
theorem bitB_nat {w : BitVec 64} {i : Nat} (hi : i < 64) : bitB w i = w.getLsbD i := by
  unfold bitB; simp; intro h; omega
theorem bitB_out {w : BitVec 64} {i : Int} (h : i < 0 ∨ 63 < i) : bitB w i = false := by
  unfold bitB
  have : (decide (0 ≤ i) && decide (i ≤ 63)) = false := by simp; intro h0; omega
  rw [this]; rfl
theorem bitB_in {w : BitVec 64} {i : Int} (h : 0 ≤ i) (h' : i ≤ 63) : bitB w i = w.getLsbD i.toNat := by
  unfold bitB; simp [h, h']

def inP (at' size : Int) (i : Nat) : Bool := decide (at' ≤ (i : Int) ∧ (i : Int) < at' + size)
def onesU (at' size : Int) : BitVec 64 := ofG (inP at' size)
def shiftU (w : BitVec 64) (by' : Int) : BitVec 64 := ofG fun i => bitB w (i - by')
def cutU (w : BitVec 64) (at' size : Int) : BitVec 64 := ofG fun k => decide ((k : Int) < size) && bitB w (at' + k)
def putU (w : BitVec 64) (at' size : Int) (n : BitVec 64) : BitVec 64 := ofG fun i => if inP at' size i = true then bitB n (i - at') else w.getLsbD i
def lowU (w : BitVec 64) (size : Int) : BitVec 64 := ofG fun i => decide ((i : Int) < size) && w.getLsbD i
def signU (w : BitVec 64) (size : Int) : BitVec 64 := ofG fun i => decide (1 ≤ size) && (if (i : Int) < size then w.getLsbD i else bitB w (size - 1))

def spanF (at' size : Int) : Int := if size < 1 then 0 else if 63 < at' then 0 else if 0 ≤ at' then at' else 0
def spanT (at' size : Int) : Int := if size < 1 then 0 else if 63 < at' then 0 else if 0 ≤ at' then at' + min size (64 - at') else if at' + size ≤ 0 then 0 else min (at' + size) 64

def s_span (args : List AV) : Option AV :=
  match args with
  | [.c (.i a), .c (.i s)] => if inR a ∧ inR s then some (.t [.c (.i (spanF a s)), .c (.i (spanT a s))]) else none
  | _ => none
theorem s_span_eq {a s} : s_span [.c (.i a), .c (.i s)] = if inR a ∧ inR s then some (.t [.c (.i (spanF a s)), .c (.i (spanT a s))]) else none := rfl
set_option maxRecDepth 100000 in
set_option maxHeartbeats 2000000 in
theorem ok_span : PuOk Tryz.prog 131 s_span := by
  refine pu_ok (tab := []) hmix TabOk.nil Tryz.func131 rfl Tryz.results131 Tryz.ntmps131 (by kernel_rfl) (by kernel_rfl) ?_
  intro args v h
  unfold s_span at h
  split at h
  · rename_i a s
    split at h
    · rename_i hc
      simp only [Option.some.injEq] at h; subst h
      refine ⟨by simp only [List.length_cons, List.length_nil]; decide, rfl, rfl, ?_⟩
      obtain ⟨⟨al, ah⟩, ⟨sl, sh⟩⟩ := hc
      by_cases h1 : s < 1
      · simp (config := { maxSteps := 10000000 }) only [go_sem, seval, spanF, spanT, h1]
      · by_cases h2 : 63 < a
        · simp (config := { maxSteps := 10000000 }) only [go_sem, seval, spanF, spanT, h1, h2]
        · by_cases h3 : 0 ≤ a
          · have e1 : w64 (64 - a) = 64 - a := w64_of (by omega)
            have e2 : w64 (a + min s (64 - a)) = a + min s (64 - a) := w64_of (by omega)
            simp (config := { maxSteps := 10000000 }) only [go_sem, seval, spanF, spanT, h1, h2, h3, e1, e2]
          · have e1 : w64 (a + s) = a + s := w64_of (by omega)
            by_cases h4 : a + s ≤ 0
            · simp (config := { maxSteps := 10000000 }) only [go_sem, seval, spanF, spanT, h1, h2, h3, h4, e1]
            · simp (config := { maxSteps := 10000000 }) only [go_sem, seval, spanF, spanT, h1, h2, h3, h4, e1]
    · simp at h
  · simp at h

theorem spanF_b {a s : Int} : 0 ≤ spanF a s ∧ spanF a s ≤ 63 := by
  unfold spanF; split <;> (try split) <;> (try split) <;> omega
theorem spanT_b {a s : Int} : 0 ≤ spanT a s ∧ spanT a s ≤ 64 := by
  unfold spanT; split <;> (try split) <;> (try split) <;> (try split) <;> omega
theorem span_in {a s : Int} {i : Nat} (hi : i < 64) : inP a s i = decide (spanF a s ≤ (i : Int) ∧ (i : Int) < spanT a s) := by
  unfold inP spanF spanT
  apply decide_eq_decide.2
  split <;> (try split) <;> (try split) <;> (try split) <;> omega
theorem ofI_nat {n : Nat} (h : n < 18446744073709551616) : (BitVec.ofInt 64 (n : Int)).toNat = n := by
  rw [BitVec.toNat_ofInt]; omega
theorem ones_eq {f t : Nat} (h : f < t) (ht : t ≤ 64) (i : Nat) (hi : i < 64) : ((18446744073709551615#64 >>> (64 - (t - f))) <<< f).getLsbD i = decide (f ≤ i ∧ i < t) := by
  have e : 18446744073709551615#64 = BitVec.allOnes 64 := by decide
  rw [e, BitVec.getLsbD_shiftLeft, BitVec.getLsbD_ushiftRight, BitVec.getLsbD_allOnes]
  by_cases h1 : i < f
  · simp [h1, hi]; omega
  · by_cases h2 : i < t
    · simp [h1, h2, hi]; omega
    · simp [h1, h2, hi]; omega

def s_ones (args : List AV) : Option AV :=
  match args with
  | [.c (.i a), .c (.i s)] => if inR a ∧ inR s then some (.c (.u (onesU a s))) else none
  | _ => none
theorem s_ones_eq {a s} : s_ones [.c (.i a), .c (.i s)] = if inR a ∧ inR s then some (.c (.u (onesU a s))) else none := rfl
set_option maxRecDepth 100000 in
set_option maxHeartbeats 2000000 in
theorem ok_ones : PuOk Tryz.prog 102 s_ones := by
  refine pu_ok (tab := [(131, .pu s_span)]) hmix (TabOk.cons (e := .pu s_span) ok_span TabOk.nil) Tryz.func102 rfl Tryz.results102 Tryz.ntmps102 (by kernel_rfl) (by kernel_rfl) ?_
  intro args v h
  unfold s_ones at h
  split at h
  · rename_i a s
    split at h
    · rename_i hc
      simp only [Option.some.injEq] at h; subst h
      refine ⟨by simp only [List.length_cons, List.length_nil]; decide, rfl, rfl, ?_⟩
      obtain ⟨ia, is⟩ := hc
      have bF := @spanF_b a s
      have bT := @spanT_b a s
      have hw : ∀ g : BitVec 64, (∀ i : Nat, i < 64 → g.getLsbD i = decide (spanF a s ≤ (i : Int) ∧ (i : Int) < spanT a s)) → g = onesU a s := fun g hg => ofG_ext fun i hi => by rw [hg i hi, span_in hi]
      obtain ⟨f, hf⟩ := Int.eq_ofNat_of_zero_le bF.1
      obtain ⟨t, ht⟩ := Int.eq_ofNat_of_zero_le bT.1
      rw [hf, ht] at hw
      by_cases h : (t : Int) ≤ (f : Int)
      · have e := hw 0#64 fun i hi => by simp; omega
        simp (config := { maxSteps := 10000000 }) only [go_sem, seval, s_span_eq, ia, is, hf, ht, h, ← e]
      · have e := hw _ fun i hi => by rw [ones_eq (f := f) (t := t) (by omega) (by omega) i hi]; simp
        have e1 : w64 ((t : Int) - f) = ((t - f : Nat) : Int) := by rw [w64_of (by omega)]; omega
        have e2 : w64 (64 - ((t - f : Nat) : Int)) = ((64 - (t - f) : Nat) : Int) := by rw [w64_of (by omega)]; omega
        have e3 := ofI_nat (n := 64 - (t - f)) (by omega)
        have e4 := ofI_nat (n := f) (by omega)
        simp (config := { maxSteps := 10000000 }) only [go_sem, seval, s_span_eq, ia, is, hf, ht, h, ← e, e1, e2, e3, e4]
    · simp at h
  · simp at h

theorem bitB_n {w : BitVec 64} {i : Nat} : bitB w i = w.getLsbD i := by
  rcases Nat.lt_or_ge i 64 with h | h
  · exact bitB_nat h
  · rw [bitB_out (by omega), BitVec.getLsbD_of_ge _ _ h]
theorem shiftU_r {w : BitVec 64} {n : Nat} : shiftU w (-(n : Int)) = w >>> n := by
  refine (ofG_ext fun i hi => ?_).symm
  have e : (i : Int) - -(n : Int) = ((n + i : Nat) : Int) := by omega
  rw [BitVec.getLsbD_ushiftRight, e, bitB_n]

theorem cut_eq {w : BitVec 64} {a s : Int} : shiftU w (-a) &&& onesU 0 s = cutU w a s := by
  refine ofG_ext fun i hi => ?_
  rw [BitVec.getLsbD_and, shiftU, onesU, ofG_get hi, ofG_get hi]
  have e : (i : Int) - -a = a + i := by omega
  have e2 : inP 0 s i = decide ((i : Int) < s) := by unfold inP; apply decide_eq_decide.2; omega
  rw [e, e2, Bool.and_comm]

theorem low_eq {w : BitVec 64} {s : Int} : w &&& onesU 0 s = lowU w s := by
  refine ofG_ext fun i hi => ?_
  rw [BitVec.getLsbD_and, onesU, ofG_get hi]
  have e2 : inP 0 s i = decide ((i : Int) < s) := by unfold inP; apply decide_eq_decide.2; omega
  rw [e2, Bool.and_comm]
def s_low (args : List AV) : Option AV :=
  match args with
  | [.c (.u w), .c (.i s)] => if inR s then some (.c (.u (lowU w s))) else none
  | _ => none
theorem s_low_eq {w s} : s_low [.c (.u w), .c (.i s)] = if inR s then some (.c (.u (lowU w s))) else none := rfl
set_option maxRecDepth 100000 in
set_option maxHeartbeats 2000000 in
theorem ok_low : PuOk Tryz.prog 64 s_low := by
  refine pu_ok (tab := [(102, .pu s_ones)]) hmix (TabOk.cons (e := .pu s_ones) ok_ones TabOk.nil) Tryz.func64 rfl Tryz.results64 Tryz.ntmps64 (by kernel_rfl) (by kernel_rfl) ?_
  intro args v h
  unfold s_low at h
  split at h
  · rename_i w s
    split at h
    · rename_i hc
      simp only [Option.some.injEq] at h; subst h
      refine ⟨by simp only [List.length_cons, List.length_nil]; decide, rfl, rfl, ?_⟩
      have i0 : inR 0 := ⟨by omega, by omega⟩
      simp (config := { maxSteps := 10000000 }) only [go_sem, seval, s_ones_eq, hc, i0, low_eq]
    · simp at h
  · simp at h

end
end Go.Proofs.YtcbhelkafelofaaGreat
namespace Go.Proofs.YtcbhelkafelofaaGreat
open Go.Am
set_option linter.unusedSimpArgs false
set_option linter.unusedVariables false
noncomputable section

theorem sar_eq {x : BitVec 64} {u : Nat} (h : u ≤ 64) : BitVec.ofInt 64 (x.toInt / 2 ^ (min u 64)) = x.sshiftRight u := by
  rw [Nat.min_eq_left h]
  unfold BitVec.sshiftRight
  rw [Int.shiftRight_eq_div_pow]
  simp
theorem sar_get {x : BitVec 64} {u i : Nat} (hi : i < 64) : (x.sshiftRight u).getLsbD i = if i + u < 64 then x.getLsbD (i + u) else x.getLsbD 63 := by
  rw [BitVec.getLsbD_sshiftRight]
  have : decide (64 ≤ i) = false := by simp; omega
  simp only [this, Bool.not_false, Bool.true_and, BitVec.msb_eq_getLsbD_last]
  rw [Nat.add_comm]
theorem sign_0 {w : BitVec 64} {s : Int} (h : s < 1) : signU w s = 0#64 := by
  refine (ofG_ext fun i hi => ?_).symm
  have : ¬ 1 ≤ s := by omega
  simp [this]
theorem sign_all {w : BitVec 64} {s : Int} (h : 63 < s) : signU w s = w := by
  refine (ofG_ext fun i hi => ?_).symm
  have h1 : 1 ≤ s := by omega
  have h2 : (i : Int) < s := by omega
  simp [h1, h2]
theorem sign_mid {w : BitVec 64} {s : Nat} (h : 1 ≤ s) (h' : s ≤ 63) : (w <<< (64 - s)).sshiftRight (64 - s) = signU w s := by
  refine ofG_ext fun i hi => ?_
  rw [sar_get hi]
  have h1 : (1 : Int) ≤ s := by omega
  simp only [h1, decide_true, Bool.true_and]
  by_cases h2 : i < s
  · rw [if_pos (by omega), if_pos (by omega), BitVec.getLsbD_shiftLeft]
    have e : i + (64 - s) - (64 - s) = i := by omega
    have e2 : i + (64 - s) < 64 := by omega
    simp [e, e2]
  · rw [if_neg (by omega), if_neg (by omega), BitVec.getLsbD_shiftLeft]
    have e : ((s : Int) - 1) = ((s - 1 : Nat) : Int) := by omega
    rw [e, bitB_n]
    have e2 : 63 - (64 - s) = s - 1 := by omega
    simp [e2]; omega

def s_sign (args : List AV) : Option AV :=
  match args with
  | [.c (.u w), .c (.i s)] => if inR s then some (.c (.u (signU w s))) else none
  | _ => none
theorem s_sign_eq {w s} : s_sign [.c (.u w), .c (.i s)] = if inR s then some (.c (.u (signU w s))) else none := rfl
set_option maxRecDepth 100000 in
set_option maxHeartbeats 2000000 in
theorem ok_sign : PuOk Tryz.prog 94 s_sign := by
  refine pu_ok (tab := []) hmix TabOk.nil Tryz.func94 rfl Tryz.results94 Tryz.ntmps94 (by kernel_rfl) (by kernel_rfl) ?_
  intro args v h
  unfold s_sign at h
  split at h
  · rename_i w s
    split at h
    · rename_i hc
      simp only [Option.some.injEq] at h; subst h
      refine ⟨by simp only [List.length_cons, List.length_nil]; decide, rfl, rfl, ?_⟩
      obtain ⟨sl, sh⟩ := hc
      by_cases h1 : s < 1
      · simp (config := { maxSteps := 10000000 }) only [go_sem, seval, h1, sign_0 h1]
      · by_cases h2 : 63 < s
        · simp (config := { maxSteps := 10000000 }) only [go_sem, seval, h1, h2, sign_all h2]
        · obtain ⟨n, rfl⟩ := Int.eq_ofNat_of_zero_le (by omega : 0 ≤ s)
          have e1 : w64 (64 - (n : Int)) = ((64 - n : Nat) : Int) := by rw [w64_of (by omega)]; omega
          have e2 := ofI_nat (n := 64 - n) (by omega)
          have e3 := sar_eq (x := w <<< (64 - n)) (u := 64 - n) (by omega)
          simp (config := { maxSteps := 10000000 }) only [go_sem, seval, h1, h2, e1, e2, e3, sign_mid (w := w) (s := n) (by omega) (by omega)]
    · simp at h
  · simp at h

end
end Go.Proofs.YtcbhelkafelofaaGreat
namespace Go.Proofs.YtcbhelkafelofaaGreat
open Go.Am
set_option linter.unusedSimpArgs false
set_option linter.unusedVariables false
noncomputable section

end
end Go.Proofs.YtcbhelkafelofaaGreat
namespace Go.Proofs.YtcbhelkafelofaaGreat
open Go.Am
set_option linter.unusedSimpArgs false
set_option linter.unusedVariables false
noncomputable section

end
end Go.Proofs.YtcbhelkafelofaaGreat
namespace Go.Proofs.YtcbhelkafelofaaGreat
open Go.Am
set_option linter.unusedSimpArgs false
set_option linter.unusedVariables false
noncomputable section

theorem Wk.same {n : Nat} {fr fr' : Fr} {H : AH} (h : ∀ s, Am.get fr' s = Am.get fr s) : Wk n fr H (fr', H) :=
  fun ρ _ _ h1 h2 => ⟨ρ, fun s => by rw [h s]; exact h1 s, h2, fun i _ hi hL _ => ⟨i, hi, hL⟩, fun _ _ => rfl⟩
theorem bel_app {H : AH} {o : AObj} (hH : belH H = true) (ho : o.scs.all (Sc.bel (H.length + 1)) = true) : belH (H ++ [o]) = true := by
  simp only [belH, List.all_append, List.all_cons, List.all_nil, Bool.and_true, Bool.and_eq_true, List.length_append, List.length_cons, List.length_nil]
  refine ⟨List.all_eq_true.2 fun x hx => List.all_eq_true.2 fun s hs => ?_, ho⟩
  have := List.all_eq_true.1 (List.all_eq_true.1 hH x hx) s hs
  exact Sc.bel_mono this (by omega)

def vecAt (w : Nat) (H : AH) : Sc → Option (Nat × List Sc × Nat)
  | .nils => some (H.length, [], 0)
  | .sl id off v n =>
    match hg H id with
    | .vec z cs => if off = 0 ∧ v = cs.length ∧ z = w ∧ cs.length = n * w then some (id, cs, n) else none
    | _ => none
  | _ => none
def vecPut (w : Nat) (H : AH) (l0 : Sc) (m : List Sc) : AH :=
  match l0 with
  | .sl id _ _ _ => H.set id (.vec w m)
  | _ => H ++ [.vec w m]
theorem vecAt_nils {w : Nat} {H : AH} : vecAt w H .nils = some (H.length, [], 0) := rfl
theorem vecPut_nils {w : Nat} {H : AH} {m : List Sc} : vecPut w H .nils m = H ++ [.vec w m] := rfl
theorem vecPut_sl {w id a b c : Nat} {H : AH} {m : List Sc} : vecPut w H (.sl id a b c) m = H.set id (.vec w m) := rfl
theorem vecAt_sl {w id n v : Nat} {H : AH} {cs : List Sc} (h : hg H id = .vec w cs) (hl : cs.length = n * w) (hv : v = cs.length) : vecAt w H (.sl id 0 v n) = some (id, cs, n) := by
  subst hv
  simp [vecAt, h, hl]
structure VecOk (w : Nat) (H : AH) (l0 : Sc) (HH : List Sc → AH) (id : Nat) (cs : List Sc) (k : Nat) : Prop where
  get0 : ∀ m, hg (HH m) id = .vec w m
  get : ∀ m X, hg (HH m ++ X) id = .vec w m
  set0 : ∀ m m', (HH m).set id (.vec w m') = HH m'
  set : ∀ m m' X, (HH m ++ X).set id (.vec w m') = HH m' ++ X
  hid : ∀ m, id < (HH m).length
  ge : ∀ m, H.length ≤ (HH m).length
  bel : ∀ m, m.all Sc.pf = true → belH (HH (cs ++ m)) = true
  start : ∀ fr d, Am.get fr d = .c l0 → Wk H.length fr H ((d, .c (.sl id 0 cs.length k)) :: fr, HH cs)
  len : cs.length = k * w
theorem pf_bel {m : List Sc} (n : Nat) (h : m.all Sc.pf = true) : m.all (Sc.bel n) = true := by
  rw [List.all_eq_true] at h ⊢
  intro x hx
  have := h x hx
  cases x <;> simp_all [Sc.pf, Sc.bel]
theorem vec_ok {w : Nat} {H : AH} {l0 : Sc} {id k : Nat} {cs : List Sc} (hw : 0 < w) (hH : belH H = true) (h : vecAt w H l0 = some (id, cs, k)) : VecOk w H l0 (vecPut w H l0) id cs k := by
  cases l0 <;> simp only [vecAt] at h <;> try (simp at h; done)
  · obtain ⟨rfl, rfl, rfl⟩ : H.length = id ∧ [] = cs ∧ 0 = k := by simpa using h
    refine ⟨fun m => ?_, fun m X => ?_, fun m m' => ?_, fun m m' X => ?_, fun m => ?_, fun m => ?_, fun m hm => ?_, fun fr d hd => ?_, ?_⟩
    · exact hg_len
    · simp only [vecPut, List.append_assoc]; exact hg_len
    · simp only [vecPut]; exact set_len
    · simp only [vecPut, List.append_assoc]; exact set_len
    · simp [vecPut]
    · simp [vecPut]
    · exact bel_app hH (pf_bel _ hm)
    · exact Wk.nil d w hw hd (Nat.le_refl _)
    · simp
  · rename_i id' off v n
    split at h
    · rename_i z cs' hz
      split at h
      · rename_i hc
        obtain ⟨rfl, rfl, rfl, hl⟩ := hc
        obtain ⟨rfl, rfl, rfl⟩ : id' = id ∧ cs' = cs ∧ n = k := by simpa using h
        have hid : id' < H.length := hg_lt (by rw [hz]; rfl)
        have hself : H.set id' (.vec z cs') = H := by
          have : H[id'] = .vec z cs' := by rw [← hz]; unfold hg; rw [List.getD_eq_getElem?_getD, List.getElem?_eq_getElem hid]; rfl
          rw [← this, List.set_getElem_self]
        refine ⟨fun m => ?_, fun m X => ?_, fun m m' => ?_, fun m m' X => ?_, fun m => ?_, fun m => ?_, fun m hm => ?_, fun fr d hd => ?_, hl⟩
        · exact hg_set_same hid
        · simp only [vecPut]; rw [hg_lt' (by simpa using hid)]; exact hg_set_same hid
        · simp only [vecPut, List.set_set]
        · simp only [vecPut]; rw [List.set_append_left _ _ (by simpa using hid), List.set_set]
        · simpa [vecPut] using hid
        · simp [vecPut]
        · refine bel_set hH ?_
          show (cs' ++ m).all _ = true
          rw [List.all_append, Bool.and_eq_true]
          refine ⟨?_, pf_bel _ hm⟩
          have hm : AObj.vec z cs' ∈ H := by rw [← hz]; unfold hg; rw [List.getD_eq_getElem?_getD, List.getElem?_eq_getElem hid]; simp
          exact List.all_eq_true.1 hH _ hm
        · simp only [vecPut]; rw [hself]
          refine Wk.same fun s => ?_
          by_cases e : d = s
          · subst e; rw [hd]; simp [Am.get]
          · simp [Am.get, e]
      · simp at h
    · simp at h
end
end Go.Proofs.YtcbhelkafelofaaGreat
namespace Go.Proofs.YtcbhelkafelofaaGreat
open Go.Am
set_option linter.unusedSimpArgs false
set_option linter.unusedVariables false
noncomputable section

def room (v : BitVec 64) : Nat := 4096 - v.toNat % 4096
def smB (c s : Int) : Bool := decide (1 ≤ s ∧ s ≤ 8 ∧ 0 ≤ c ∧ c < s)
def s_smay (args : List AV) : Option AV :=
  match args with
  | [.g [.u a, .u n, .i c, .i s]] => some (.c (.b (smB c s)))
  | _ => none
theorem s_smay_eq {a n c s} : s_smay [.g [.u a, .u n, .i c, .i s]] = some (.c (.b (smB c s))) := rfl
set_option maxRecDepth 100000 in
set_option maxHeartbeats 2000000 in
theorem ok_smay : PuOk Tryz.prog 123 s_smay := by
  refine pu_ok (tab := []) hmix TabOk.nil Tryz.func123 rfl Tryz.results123 Tryz.ntmps123 (by kernel_rfl) (by kernel_rfl) ?_
  intro args v h
  unfold s_smay at h
  split at h
  · rename_i a n c s
    simp only [Option.some.injEq] at h; subst h
    refine ⟨by simp only [List.length_cons, List.length_nil]; decide, rfl, rfl, ?_⟩
    by_cases h1 : 1 ≤ s
    all_goals by_cases h2 : s ≤ 8
    all_goals by_cases h3 : 0 ≤ c
    all_goals by_cases h4 : c < s
    all_goals simp (config := { maxSteps := 10000000 }) only [go_sem, seval, smB, h1, h2, h3, h4, and_false, false_and]
  · simp at h
def s_sline (args : List AV) : Option AV :=
  match args with
  | [.c (.u v)] => some (.c (.u (v / 64#64)))
  | _ => none
theorem s_sline_eq {v} : s_sline [.c (.u v)] = some (.c (.u (v / 64#64))) := rfl
set_option maxRecDepth 100000 in
set_option maxHeartbeats 2000000 in
theorem ok_sline : PuOk Tryz.prog 54 s_sline := by
  refine pu_ok (tab := []) hmix TabOk.nil Tryz.func54 rfl Tryz.results54 Tryz.ntmps54 (by kernel_rfl) (by kernel_rfl) ?_
  intro args v h
  unfold s_sline at h
  split at h
  · rename_i v
    simp only [Option.some.injEq] at h; subst h
    refine ⟨by simp only [List.length_cons, List.length_nil]; decide, rfl, rfl, ?_⟩
    simp (config := { maxSteps := 10000000 }) only [go_sem, seval]
  · simp at h

def left (a : BitVec 64) : Nat := 64 - a.toNat % 64
def pcs (a : BitVec 64) (n s : Int) : List Sc := if n ≤ (left a : Int) then [.u a, .i n, .i s] else [.u a, .i (left a), .i s, .u (a + BitVec.ofInt 64 (left a)), .i (n - left a), .i (s + 8 * left a)]
def pcN (a : BitVec 64) (n : Int) : Nat := if n ≤ (left a : Int) then 1 else 2
theorem mod64 (v : BitVec 64) : (v % 64#64).toInt = ((v.toNat % 64 : Nat) : Int) := by
  rw [BitVec.toInt_eq_toNat_cond, BitVec.toNat_umod]
  have e : (64#64).toNat = 64 := rfl
  rw [e, if_pos (by omega)]
def s_run (args : List AV) (H : AH) : Option (AV × AH) :=
  match args with
  | [.c l0, .c (.u a), .c (.i n), .c (.i s)] =>
    if 1 ≤ n ∧ n ≤ 8 ∧ 0 ≤ s ∧ s ≤ 64 then
      match vecAt 3 H l0 with
      | some (id, cs, k) => if k ≤ 1000 then some (.c (.sl id 0 (cs.length + 3 * pcN a n) (k + pcN a n)), vecPut 3 H l0 (cs ++ pcs a n s)) else none
      | none => none
    else none
  | _ => none
theorem s_run_eq {H : AH} {l0 : Sc} {a : BitVec 64} {n s : Int} {id k : Nat} {cs : List Sc} (h : 1 ≤ n ∧ n ≤ 8 ∧ 0 ≤ s ∧ s ≤ 64) (hv : vecAt 3 H l0 = some (id, cs, k)) (hk : k ≤ 1000) : s_run [.c l0, .c (.u a), .c (.i n), .c (.i s)] H = some (.c (.sl id 0 (cs.length + 3 * pcN a n) (k + pcN a n)), vecPut 3 H l0 (cs ++ pcs a n s)) := by
  simp only [s_run, h, hv, hk, and_self, if_true]
theorem len_run (args : List AV) (H : AH) (v : AV) (H1 : AH) (h : s_run args H = some (v, H1)) : H.length ≤ H1.length := by
  unfold s_run at h
  split at h
  · rename_i l0 a n s
    split at h
    · split at h
      · split at h
        · simp only [Option.some.injEq, Prod.mk.injEq] at h
          rw [← h.2]
          unfold vecPut
          split <;> simp
        · simp at h
      · simp at h
    · simp at h
  · simp at h
set_option maxRecDepth 100000 in
set_option maxHeartbeats 2000000 in
theorem ok_run : FpOk Tryz.prog 124 s_run := by
  refine fp_ok (s := s_run) (tab := []) hmix TabOk.nil Tryz.func124 rfl Tryz.results124 Tryz.ntmps124 (by kernel_rfl) (by kernel_rfl) len_run ?_
  intro args H v H1 h hargs hH
  unfold s_run at h
  split at h
  · rename_i l0 a n s
    split at h
    · rename_i hc
      obtain ⟨hn1, hn8, hs0, hs64⟩ := hc
      split at h
      · rename_i id cs k0 hv
        split at h
        · rename_i hk0
          simp only [Option.some.injEq, Prod.mk.injEq] at h
          obtain ⟨rfl, rfl⟩ := h
          have V := vec_ok (by decide) hH hv
          generalize vecPut 3 H l0 = HH at V
          have g0 := V.get0
          have g1 := V.get
          have g2 := V.set0
          have g3 := V.set
          have hl0 := V.len
          refine ⟨by simp only [List.length_cons, List.length_nil]; decide, ?_⟩
          have d1 : w64 (64 - ((a.toNat % 64 : Nat) : Int)) = (left a : Int) := by rw [w64_of (by omega)]; unfold left; omega
          have d2 : 1 ≤ left a ∧ left a ≤ 64 := by unfold left; omega
          have d3 : ((k0 + 1) * 24 ≤ 1099511627776) = True := eq_true (by omega)
          have d3b : ((k0 + 1 + 1) * 24 ≤ 1099511627776) = True := eq_true (by omega)
          simp (config := { maxSteps := 10000000 }) only [go_sem, seval]
          rw [arun_loop]
          by_cases hb : n ≤ (left a : Int)
          · have e1 : min n (left a : Int) = n := by omega
            have hp : pcs a n s = [.u a, .i n, .i s] := by simp only [pcs, hb, if_true]
            have hq : pcN a n = 1 := by simp only [pcN, hb, if_true]
            have e2 : (0 < n) = True := eq_true (by omega)
            have e3 : w64 (n - n) = 0 := by rw [w64_of (by omega)]; omega
            have e4 : (cs.length = k0 * 3) = True := eq_true hl0
            have hb1 := V.bel [.u a, .i n, .i s] rfl
            have hb0 := V.bel [] rfl
            rw [List.append_nil] at hb0
            refine ⟨Bool, fun k => if k = true then ([(0, .c (.sl id 0 cs.length k0)), (1, .c (.u a)), (2, .c (.i n)), (3, .c (.i s))], HH cs) else ([(0, .c (.sl id 0 (cs.length + 3) (k0 + 1))), (2, .c (.i 0))], HH (cs ++ [.u a, .i n, .i s])), fun k => k.toNat, true, ?_, ?_⟩
            · exact Wk.trans (V.start _ 0 (by simp [Am.get])) (Wk.wk (V.ge _) (by simp [Am.get]) (by simp [AV.bel, Sc.bel, V.hid]) (subH_refl _) hb0)
            · rintro (_ | _)
              · simp (config := { maxSteps := 10000000 }) only [go_sem, seval, hp, hq]
                exact ⟨_, rfl, Wk.wk (V.ge _) (by simp [Am.get]) (by simp [AV.bel, Sc.bel, V.hid]) (subH_refl _) hb1⟩
              · simp (config := { maxSteps := 10000000 }) only [go_sem, seval, mod64, d1, d3, d3b, e1, e2, e3, e4, g0, g1, g2, g3]
                exact ⟨false, by decide, Wk.wk (V.ge _) (by simp [Am.get]) (by simp [AV.bel, Sc.bel, V.hid]) (subH_app _ _) hb1⟩
          · obtain ⟨m, hm⟩ : ∃ m, left a = m := ⟨_, rfl⟩
            have hp : pcs a n s = [.u a, .i m, .i s, .u (a + BitVec.ofInt 64 m), .i (n - m), .i (s + 8 * m)] := by unfold pcs; rw [if_neg hb, hm]
            have hq : pcN a n = 2 := by simp only [pcN, hb, if_false]
            rw [hm] at d1 d2 hb
            have e1 : min n (m : Int) = m := by omega
            have e2 : (0 < n) = True := eq_true (by omega)
            have e3 : w64 (n - m) = n - m := w64_of (by omega)
            have e4 : (cs.length = k0 * 3) = True := eq_true hl0
            have e5 : w64 (s + w64 (8 * (m : Int))) = s + 8 * m := by rw [w64_of (n := 8 * (m : Int)) (by omega)]; exact w64_of (by omega)
            have e6 : w64 (n - m - (n - m)) = 0 := by rw [w64_of (by omega)]; omega
            have e7 : (cs.length + 3 = (k0 + 1) * 3) = True := eq_true (by omega)
            have e8 : (0 < n - m) = True := eq_true (by omega)
            have d4 : (a + BitVec.ofInt 64 (m : Int)).toNat % 64 = 0 := by
              have e0 : (BitVec.ofInt 64 (m : Int)).toNat = m := ofI_nat (by omega)
              rw [BitVec.toNat_add, e0, ← hm]; unfold left; omega
            have d5 : w64 64 = 64 := by decide
            have d6 : min (n - (m : Int)) 64 = n - m := by omega
            have hb2 := V.bel [.u a, .i m, .i s, .u (a + BitVec.ofInt 64 m), .i (n - m), .i (s + 8 * m)] rfl
            have hb1 := V.bel [.u a, .i m, .i s] rfl
            have hb0 := V.bel [] rfl
            rw [List.append_nil] at hb0
            refine ⟨Option Bool, fun k => (match k with
              | none => ([(0, .c (.sl id 0 (cs.length + 6) (k0 + 2))), (2, .c (.i 0))], HH (cs ++ [.u a, .i m, .i s, .u (a + BitVec.ofInt 64 m), .i (n - m), .i (s + 8 * m)]))
              | some true => ([(0, .c (.sl id 0 cs.length k0)), (1, .c (.u a)), (2, .c (.i n)), (3, .c (.i s))], HH cs)
              | some false => ([(0, .c (.sl id 0 (cs.length + 3) (k0 + 1))), (1, .c (.u (a + BitVec.ofInt 64 m))), (2, .c (.i (n - m))), (3, .c (.i (s + 8 * m)))], HH (cs ++ [.u a, .i m, .i s]))), fun k => (match k with
              | none => 0
              | some true => 2
              | some false => 1), some true, ?_, ?_⟩
            · exact Wk.trans (V.start _ 0 (by simp [Am.get])) (Wk.wk (V.ge _) (by simp [Am.get]) (by simp [AV.bel, Sc.bel, V.hid]) (subH_refl _) hb0)
            · rintro (_ | _ | _)
              · simp (config := { maxSteps := 10000000 }) only [go_sem, seval, hp, hq]
                exact ⟨_, rfl, Wk.wk (V.ge _) (by simp [Am.get]) (by simp [AV.bel, Sc.bel, V.hid]) (subH_refl _) hb2⟩
              · simp (config := { maxSteps := 10000000 }) only [go_sem, seval, mod64, d1, d3, d3b, d4, d5, d6, e1, e2, e3, e4, e5, e6, e7, e8, g0, g1, g2, g3]
                exact ⟨none, by decide, Wk.wk (V.ge _) (by simp [Am.get]) (by simp [AV.bel, Sc.bel, V.hid]) (subH_app _ _) hb2⟩
              · simp (config := { maxSteps := 10000000 }) only [go_sem, seval, mod64, d1, d3, d3b, e1, e2, e3, e4, e5, g0, g1, g2, g3]
                exact ⟨some false, by decide, Wk.wk (V.ge _) (by simp [Am.get]) (by simp [AV.bel, Sc.bel, V.hid]) (subH_app _ _) hb1⟩
        · simp at h
      · simp at h
    · simp at h
  · simp at h

def accL (a b : BitVec 64) (c s : Int) : List Sc := if smB c s = true then (if c = 0 then pcs a s 0 else pcs a c 0 ++ pcs b (s - c) (8 * c)) else []
def accN (a b : BitVec 64) (c s : Int) : Nat := if smB c s = true then (if c = 0 then pcN a s else pcN a c + pcN b (s - c)) else 0
theorem pcs_len {a : BitVec 64} {n s : Int} : (pcs a n s).length = 3 * pcN a n := by unfold pcs pcN; split <;> rfl
theorem pcN_le {a : BitVec 64} {n : Int} : 1 ≤ pcN a n ∧ pcN a n ≤ 2 := by unfold pcN; split <;> omega
def s_pieces (args : List AV) (H : AH) : Option (AV × AH) :=
  match args with
  | [.g [.u a, .u b, .i c, .i s]] => if smB c s = true then some (.c (.sl (H.length + 1) 0 (3 * accN a b c s) (accN a b c s)), H ++ [.dead, .vec 3 (accL a b c s)]) else some (.c .nils, H)
  | _ => none
theorem s_pieces_eq {a b : BitVec 64} {c s : Int} {H : AH} : s_pieces [.g [.u a, .u b, .i c, .i s]] H = if smB c s = true then some (.c (.sl (H.length + 1) 0 (3 * accN a b c s) (accN a b c s)), H ++ [.dead, .vec 3 (accL a b c s)]) else some (.c .nils, H) := rfl
theorem len_pieces (args : List AV) (H : AH) (v : AV) (H1 : AH) (h : s_pieces args H = some (v, H1)) : H.length ≤ H1.length := by
  unfold s_pieces at h
  split at h
  · split at h
    all_goals simp only [Option.some.injEq, Prod.mk.injEq] at h
    all_goals rw [← h.2]
    all_goals simp
  · simp at h
theorem pcs_pf {a : BitVec 64} {n s : Int} : (pcs a n s).all Sc.pf = true := by unfold pcs; split <;> rfl
theorem subH_dead1 (H : AH) (x y : AObj) : subH (H ++ [.dead, y]) (H ++ [x, y]) := by
  induction H with
  | nil => exact ⟨.inl rfl, .inr rfl, trivial⟩
  | cons o r ih => exact ⟨.inr rfl, ih⟩
theorem bel_app2 {H : AH} {o : AObj} (hH : belH H = true) (ho : o.scs.all (Sc.bel (H.length + 2)) = true) : belH (H ++ [.dead, o]) = true := by
  simp only [belH, List.all_append, List.all_cons, List.all_nil, Bool.and_true, Bool.and_eq_true, List.length_append, List.length_cons, List.length_nil]
  refine ⟨List.all_eq_true.2 fun x hx => List.all_eq_true.2 fun s hs => ?_, rfl, ho⟩
  have := List.all_eq_true.1 (List.all_eq_true.1 hH x hx) s hs
  exact Sc.bel_mono this (by omega)
set_option maxRecDepth 100000 in
set_option maxHeartbeats 2000000 in
theorem ok_pieces : FpOk Tryz.prog 87 s_pieces := by
  refine fp_ok (s := s_pieces) (tab := [(123, .pu s_smay), (124, .fp s_run)]) hmix (TabOk.cons (e := .pu s_smay) ok_smay (TabOk.cons (e := .fp s_run) ok_run TabOk.nil)) Tryz.func87 rfl Tryz.results87 Tryz.ntmps87 (by kernel_rfl) (by kernel_rfl) len_pieces ?_
  intro args H v H1 h hargs hH
  unfold s_pieces at h
  split at h
  · rename_i a b c s
    split at h
    · rename_i hm
      simp only [Option.some.injEq, Prod.mk.injEq] at h
      obtain ⟨rfl, rfl⟩ := h
      refine ⟨by simp only [List.length_cons, List.length_nil]; decide, ?_⟩
      have hm' : 1 ≤ s ∧ s ≤ 8 ∧ 0 ≤ c ∧ c < s := by simpa [smB] using hm
      by_cases hc : c = 0
      · subst hc
        have r := s_run_eq (H := H ++ [.own [.u a, .u b, .i 0, .i s]]) (l0 := .nils) (a := a) (n := s) (s := 0) (by omega) vecAt_nils (by omega)
        have n1 : accN a b 0 s = pcN a s := by simp only [accN, hm, if_true]
        have n2 : accL a b 0 s = pcs a s 0 := by simp only [accL, hm, if_true]
        simp (config := { maxSteps := 10000000 }) only [go_sem, seval, s_smay_eq, s_run_eq, hm, r]
        exact ⟨_, rfl, Wk.wk (by simp [lo]) (by simp [Am.get, n1]) (by simp [AV.bel, Sc.bel]) (by rw [vecPut_nils, n2, List.append_assoc]; exact subH_dead1 H _ _) (by rw [n2]; exact bel_app2 hH (pf_bel _ pcs_pf))⟩
      · have r := s_run_eq (H := H ++ [.own [.u a, .u b, .i c, .i s]]) (l0 := .nils) (a := a) (n := c) (s := 0) (by omega) vecAt_nils (by omega)
        have f1 : (H ++ [AObj.own [.u a, .u b, .i c, .i s]]).length = H.length + 1 := by simp
        have pa := @pcN_le a c
        have la := @pcs_len a c 0
        have e1 : w64 (s - c) = s - c := w64_of (by omega)
        have e2 : w64 (8 * c) = 8 * c := w64_of (by omega)
        have n1 : accN a b c s = pcN a c + pcN b (s - c) := by simp only [accN, hm, hc, if_true, if_false]
        have n2 : accL a b c s = pcs a c 0 ++ pcs b (s - c) (8 * c) := by simp only [accL, hm, hc, if_true, if_false]
        have r2 := s_run_eq (H := vecPut 3 (H ++ [.own [.u a, .u b, .i c, .i s]]) .nils ([] ++ pcs a c 0)) (l0 := .sl (H.length + 1) 0 (3 * pcN a c) (pcN a c)) (a := b) (n := s - c) (s := 8 * c) (id := H.length + 1) (cs := pcs a c 0) (k := pcN a c) (by omega)
          (vecAt_sl (by rw [vecPut_nils, List.append_assoc]; exact hg_len_add) (by omega) la.symm) (by omega)
        rw [vecPut_sl, vecPut_nils, List.append_assoc, set_len_add] at r2
        simp only [List.cons_append, List.nil_append, List.set_cons_succ, List.set_cons_zero] at r2
        simp (config := { maxSteps := 10000000 }) only [go_sem, seval, s_smay_eq, s_run_eq, hm, hc, r, vecPut_nils, e1, e2, r2]
        exact ⟨by decide, _, rfl, Wk.wk (by simp [lo]) (by simp [Am.get, n1, la]; omega) (by simp [AV.bel, Sc.bel]) (by rw [n2]; exact subH_dead1 H _ _) (by rw [n2]; exact bel_app2 hH (pf_bel _ (by show (pcs a c 0 ++ pcs b (s - c) (8 * c)).all Sc.pf = true; rw [List.all_append, Bool.and_eq_true]; exact ⟨pcs_pf, pcs_pf⟩)))⟩
    · rename_i hm
      simp only [Option.some.injEq, Prod.mk.injEq] at h
      obtain ⟨rfl, rfl⟩ := h
      refine ⟨by simp only [List.length_cons, List.length_nil]; decide, ?_⟩
      simp (config := { maxSteps := 10000000 }) only [go_sem, seval, s_smay_eq, s_run_eq, hm]
      exact ⟨_, rfl, Wk.wk (by simp [lo]) (by simp [Am.get]) rfl (subH_app _ _) hH⟩
  · simp at h

end
end Go.Proofs.YtcbhelkafelofaaGreat
