/- Contracts of layer 26's reference; its laws. -/
import Derived.Test.YtanblagbkhpolaaV1
namespace Go.Proofs.Ytanblagbkhpolaa
open Go.Am
set_option linter.unusedSimpArgs false
set_option linter.unusedVariables false
noncomputable section

def s_rlev (args : List AV) : Option AV :=
  match args with
  | [.c (.i l)] => some (.c (.b (thB l)))
  | _ => none
theorem s_rlev_eq {l} : s_rlev [.c (.i l)] = some (.c (.b (thB l))) := rfl
set_option maxRecDepth 100000 in
set_option maxHeartbeats 2000000 in
theorem ok_rlev : PuOk Try.prog 55 s_rlev := by
  refine pu_ok (tab := []) hmix TabOk.nil Try.func55 rfl Try.results55 Try.ntmps55 (by kernel_rfl) (by kernel_rfl) ?_
  intro args v h
  unfold s_rlev at h
  split at h
  · rename_i l
    simp only [Option.some.injEq] at h; subst h
    refine ⟨by simp only [List.length_cons, List.length_nil]; decide, rfl, rfl, ?_⟩
    by_cases h0 : l = 0
    · subst h0
      have e : thB 0 = true := rfl
      simp (config := { maxSteps := 10000000 }) only [go_sem, seval, e]
    · by_cases h1 : l = 1
      · subst h1
        have e : thB 1 = true := rfl
        simp (config := { maxSteps := 10000000 }) only [go_sem, seval, e]
      · by_cases h2 : l = 2
        · subst h2
          have e : thB 2 = true := rfl
          simp (config := { maxSteps := 10000000 }) only [go_sem, seval, e]
        · have e : thB l = false := thB_f (by omega)
          simp (config := { maxSteps := 10000000 }) only [go_sem, seval, e, h0, h1, h2]
  · simp at h
/-- do all bits above agree? -/
def mayU (v : BitVec 64) (k : Nat) : Prop := ∀ i : Nat, 39 ≤ i → i < k → v.getLsbD i = v.getLsbD 38
theorem may_eq (v : BitVec 64) : mayU v 64 ↔ signU v 39 = v := by
  constructor
  · intro h
    refine (ofG_ext fun i hi => ?_).symm
    have e : (39 : Int) - 1 = ((38 : Nat) : Int) := rfl
    have e1 : decide ((1 : Int) ≤ 39) = true := rfl
    rw [e, bitB_n, e1, Bool.true_and]
    by_cases h2 : (i : Int) < 39
    · rw [if_pos h2]
    · rw [if_neg h2, h i (by omega) hi]
  · intro h i h1 h2
    have e : (39 : Int) - 1 = ((38 : Nat) : Int) := rfl
    have e1 : decide ((1 : Int) ≤ 39) = true := rfl
    have g : (signU v 39).getLsbD i = v.getLsbD 38 := by
      rw [signU, ofG_get h2, e, bitB_n, e1, Bool.true_and, if_neg (by omega)]
    rw [← g, h]
theorem b2_inj {a b : Bool} : (b2 a = b2 b) = (a = b) := by cases a <;> cases b <;> simp [b2]
def s_rmay (args : List AV) : Option AV :=
  match args with
  | [.c (.u v)] => some (.c (.b (decide (signU v 39 = v))))
  | _ => none
theorem s_rmay_eq {v} : s_rmay [.c (.u v)] = some (.c (.b (decide (signU v 39 = v)))) := rfl
set_option maxRecDepth 100000 in
set_option maxHeartbeats 2000000 in
theorem ok_rmay : PuOk Try.prog 27 s_rmay := by
  refine pu_ok (tab := [(54, .pu s_bit)]) hmix (TabOk.cons (e := .pu s_bit) ok_bit TabOk.nil) Try.func27 rfl Try.results27 Try.ntmps27 (by kernel_rfl) (by kernel_rfl) ?_
  intro args v h
  unfold s_rmay at h
  split at h
  · rename_i v
    simp only [Option.some.injEq] at h; subst h
    refine ⟨by simp only [List.length_cons, List.length_nil]; decide, rfl, rfl, ?_⟩
    simp (config := { maxSteps := 10000000 }) only [go_sem, seval, s_bit_eq]
    rw [arun_loop]
    refine ⟨{k : Nat // 39 ≤ k ∧ k ≤ 64 ∧ mayU v k}, fun k => ([(0, .c (.u v)), (3, .c (.i k.1))], []), fun k => 64 - k.1, ⟨39, by omega, by omega, fun i h1 h2 => by omega⟩, ?_, ?_⟩
    · exact Wk.drop (by simp [Am.get]) rfl rfl rfl
    · rintro ⟨k, h39, hk, hm⟩
      by_cases hlt : k < 64
      · have e1 : w64 ((k : Int) + 1) = ((k + 1 : Nat) : Int) := by rw [w64_of (by omega)]; omega
        have e2 : ((k : Int) < 64) = True := eq_true (by omega)
        have b1 : bitU v (k : Int) = b2 (v.getLsbD k) := bitU_n
        have b3 : bitU v 38 = b2 (v.getLsbD 38) := bitU_n (k := 38)
        by_cases h : v.getLsbD k = v.getLsbD 38
        · simp (config := { maxSteps := 10000000 }) only [go_sem, seval, s_bit_eq, e1, e2, b1, b3, h]
          exact ⟨⟨k + 1, by omega, by omega, fun i h1 h2 => by
            rcases Nat.lt_or_ge i k with h3 | h3
            · exact hm i h1 h3
            · obtain rfl : i = k := by omega
              exact h⟩, by simp; omega, Wk.drop (by simp [Am.get]) rfl rfl rfl⟩
        · have hn : (signU v 39 = v) = False := eq_false fun e => h ((may_eq v).2 e k h39 hlt)
          simp (config := { maxSteps := 10000000 }) only [go_sem, seval, s_bit_eq, e1, e2, b1, b3, b2_inj, h, hn]
      · obtain rfl : k = 64 := by omega
        have e2 : ((64 : Int) < 64) = False := by simp
        have hn : (signU v 39 = v) = True := eq_true ((may_eq v).1 hm)
        simp (config := { maxSteps := 10000000 }) only [go_sem, seval, s_bit_eq, e2, hn]
  · simp at h
def s_rplace (args : List AV) : Option AV :=
  match args with
  | [.c (.u v), .c (.i l)] => some (.c (.i (placeU v l)))
  | _ => none
theorem s_rplace_eq {v l} : s_rplace [.c (.u v), .c (.i l)] = some (.c (.i (placeU v l))) := rfl
set_option maxRecDepth 100000 in
set_option maxHeartbeats 2000000 in
theorem ok_rplace : PuOk Try.prog 57 s_rplace := by
  refine pu_ok (tab := [(55, .pu s_rlev), (56, .pu s_rcut)]) hmix (TabOk.cons (e := .pu s_rlev) ok_rlev (TabOk.cons (e := .pu s_rcut) ok_rcut TabOk.nil)) Try.func57 rfl Try.results57 Try.ntmps57 (by kernel_rfl) (by kernel_rfl) ?_
  intro args v h
  unfold s_rplace at h
  split at h
  · rename_i v l
    simp only [Option.some.injEq] at h; subst h
    refine ⟨by simp only [List.length_cons, List.length_nil]; decide, rfl, rfl, ?_⟩
    by_cases h : 0 ≤ l ∧ l ≤ 2
    · have e1 : w64 (9 * l) = 9 * l := w64_of (by omega)
      have e2 : w64 (12 + 9 * l) = 12 + 9 * l := w64_of (by omega)
      have i1 : inR (12 + 9 * l) := ⟨by omega, by omega⟩
      have i2 : inR 9 := ⟨by omega, by omega⟩
      simp (config := { maxSteps := 10000000 }) only [go_sem, seval, s_rlev_eq, s_rcut_eq, thB_t h, placeU, e1, e2, i1, i2]
    · simp (config := { maxSteps := 10000000 }) only [go_sem, seval, s_rlev_eq, s_rcut_eq, thB_f h, placeU]
  · simp at h
theorem vsize_012 : vsizeU 0 = 4096#64 ∧ vsizeU 1 = 2097152#64 ∧ vsizeU 2 = 1073741824#64 := by decide
def rszU : Nat → BitVec 64
  | 0 => 4096#64
  | k + 1 => rszU k * 512#64
def s_rsize (args : List AV) : Option AV :=
  match args with
  | [.c (.i l)] => some (.c (.u (vsizeU l)))
  | _ => none
theorem s_rsize_eq {l} : s_rsize [.c (.i l)] = some (.c (.u (vsizeU l))) := rfl
set_option maxRecDepth 100000 in
set_option maxHeartbeats 2000000 in
theorem ok_rsize : PuOk Try.prog 60 s_rsize := by
  refine pu_ok (tab := [(55, .pu s_rlev)]) hmix (TabOk.cons (e := .pu s_rlev) ok_rlev TabOk.nil) Try.func60 rfl Try.results60 Try.ntmps60 (by kernel_rfl) (by kernel_rfl) ?_
  intro args v h
  unfold s_rsize at h
  split at h
  · rename_i l
    simp only [Option.some.injEq] at h; subst h
    refine ⟨by simp only [List.length_cons, List.length_nil]; decide, rfl, rfl, ?_⟩
    by_cases h : 0 ≤ l ∧ l ≤ 2
    · obtain ⟨n, rfl⟩ := Int.eq_ofNat_of_zero_le h.1
      have hn : n ≤ 2 := by omega
      have hz : vsizeU n = rszU n := by
        rcases (by omega : n = 0 ∨ n = 1 ∨ n = 2) with rfl | rfl | rfl <;> decide
      simp (config := { maxSteps := 10000000 }) only [go_sem, seval, s_rlev_eq, thB_t h]
      rw [arun_loop]
      refine ⟨{k : Nat // k ≤ n}, fun k => ([(0, .c (.i n)), (3, .c (.u (rszU k.1))), (4, .c (.i k.1))], []), fun k => n - k.1, ⟨0, by omega⟩, ?_, ?_⟩
      · exact Wk.drop (by simp [Am.get, rszU]) rfl rfl rfl
      · rintro ⟨k, hk⟩
        by_cases hlt : k < n
        · have e1 : w64 ((k : Int) + 1) = ((k + 1 : Nat) : Int) := by rw [w64_of (by omega)]; omega
          have e2 : ((k : Int) < (n : Int)) = True := eq_true (by omega)
          simp (config := { maxSteps := 10000000 }) only [go_sem, seval, s_rlev_eq, e1, e2]
          exact ⟨⟨k + 1, by omega⟩, by simp; omega, Wk.drop (by simp [Am.get, rszU]) rfl rfl rfl⟩
        · obtain rfl : k = n := by omega
          have e2 : ((k : Int) < (k : Int)) = False := by simp
          simp (config := { maxSteps := 10000000 }) only [go_sem, seval, s_rlev_eq, e2, hz]
    · have e : vsizeU l = 0#64 := by unfold vsizeU; rw [thB_f h]; rfl
      simp (config := { maxSteps := 10000000 }) only [go_sem, seval, s_rlev_eq, thB_f h, e]
  · simp at h
theorem page_eq (v : BitVec 64) (k : Nat) (hk : k < 64) : v &&& ~~~((1#64 <<< k) - 1#64) = v / (1#64 <<< k) * (1#64 <<< k) := by
  have e1 : (1#64 <<< k).toNat = 2 ^ k := by
    rw [BitVec.toNat_shiftLeft, Nat.shiftLeft_eq]
    have : 2 ^ k < 2 ^ 64 := Nat.pow_lt_pow_right (by omega) hk
    simp; exact this
  have e2 : v / (1#64 <<< k) * (1#64 <<< k) = (v >>> k) <<< k := by
    apply BitVec.eq_of_toNat_eq
    rw [BitVec.toNat_mul, BitVec.toNat_udiv, e1, BitVec.toNat_shiftLeft, BitVec.toNat_ushiftRight, Nat.shiftLeft_eq, Nat.shiftRight_eq_div_pow]
  have e3 : (1#64 <<< k) - 1#64 = BitVec.ofNat 64 (2 ^ k - 1) := by
    apply BitVec.eq_of_toNat_eq
    have h1 : 2 ^ k < 2 ^ 64 := Nat.pow_lt_pow_right (by omega) hk
    have h2 : 0 < 2 ^ k := Nat.two_pow_pos k
    rw [BitVec.toNat_sub, e1, BitVec.toNat_ofNat, BitVec.toNat_ofNat]
    omega
  rw [e2, e3]
  apply BitVec.eq_of_getLsbD_eq
  intro i hi
  rw [BitVec.getLsbD_and, BitVec.getLsbD_not, BitVec.getLsbD_ofNat, Nat.testBit_two_pow_sub_one, BitVec.getLsbD_shiftLeft, BitVec.getLsbD_ushiftRight]
  by_cases h : i < k
  · simp [h, hi]
  · have e : k + (i - k) = i := by omega
    simp [h, hi, e]
theorem vpage_eq (v : BitVec 64) (l : Int) (h : 0 ≤ l ∧ l ≤ 2) : vpageU v l = v / vsizeU l * vsizeU l := by
  unfold vpageU
  rw [thB_t h, if_pos rfl]
  unfold vsizeU
  rw [thB_t h, if_pos rfl]
  exact page_eq v _ (by omega)
theorem vsize_ne (l : Int) (h : 0 ≤ l ∧ l ≤ 2) : vsizeU l ≠ 0#64 := by
  rcases (by omega : l = 0 ∨ l = 1 ∨ l = 2) with rfl | rfl | rfl <;> decide
def s_rpage (args : List AV) : Option AV :=
  match args with
  | [.c (.u v), .c (.i l)] => some (.c (.u (vpageU v l)))
  | _ => none
theorem s_rpage_eq {v l} : s_rpage [.c (.u v), .c (.i l)] = some (.c (.u (vpageU v l))) := rfl
set_option maxRecDepth 100000 in
set_option maxHeartbeats 2000000 in
theorem ok_rpage : PuOk Try.prog 34 s_rpage := by
  refine pu_ok (tab := [(55, .pu s_rlev), (60, .pu s_rsize)]) hmix (TabOk.cons (e := .pu s_rlev) ok_rlev (TabOk.cons (e := .pu s_rsize) ok_rsize TabOk.nil)) Try.func34 rfl Try.results34 Try.ntmps34 (by kernel_rfl) (by kernel_rfl) ?_
  intro args v h
  unfold s_rpage at h
  split at h
  · rename_i v l
    simp only [Option.some.injEq] at h; subst h
    refine ⟨by simp only [List.length_cons, List.length_nil]; decide, rfl, rfl, ?_⟩
    by_cases h : 0 ≤ l ∧ l ≤ 2
    · have hne := vsize_ne l h
      simp (config := { maxSteps := 10000000 }) only [go_sem, seval, s_rlev_eq, s_rsize_eq, thB_t h, vpage_eq v l h, hne]
    · have e : vpageU v l = v := by unfold vpageU; rw [thB_f h]; rfl
      simp (config := { maxSteps := 10000000 }) only [go_sem, seval, s_rlev_eq, s_rsize_eq, thB_f h, e]
  · simp at h
theorem low_cut (w : BitVec 64) (s : Int) : cutU w 0 s = lowU w s := (ofG_congr fun i hi => by rw [Int.zero_add, bitB_n])
theorem entry_eq (p v : BitVec 64) (l : Int) (h : thB l = true) : lowU p 44 <<< 12 ||| BitVec.ofInt 64 (placeU v l) <<< 3 = lowU p 44 * 4096#64 + 8#64 * BitVec.ofInt 64 (placeU v l) := by
  have e0 : BitVec.ofInt 64 (placeU v l) = cutU v (12 + 9 * l) 9 := by unfold placeU; rw [h, if_pos rfl, BitVec.ofInt_toInt]
  have e1 : lowU p 44 * 4096#64 = lowU p 44 <<< 12 := by
    apply BitVec.eq_of_toNat_eq
    rw [BitVec.toNat_mul, BitVec.toNat_shiftLeft, Nat.shiftLeft_eq]; rfl
  have e2 : 8#64 * cutU v (12 + 9 * l) 9 = cutU v (12 + 9 * l) 9 <<< 3 := by
    apply BitVec.eq_of_toNat_eq
    rw [BitVec.toNat_mul, BitVec.toNat_shiftLeft, Nat.shiftLeft_eq, BitVec.toNat_ofNat]
    congr 1; omega
  rw [e0, e1, e2, BitVec.add_eq_or_of_and_eq_zero]
  apply BitVec.eq_of_getLsbD_eq
  intro i hi
  rw [BitVec.getLsbD_and, BitVec.getLsbD_shiftLeft, BitVec.getLsbD_shiftLeft]
  by_cases h1 : i < 12
  · simp [h1]
  · have h2 : cutU v (12 + 9 * l) 9 = ofG fun k => decide ((k : Int) < 9) && bitB v (12 + 9 * l + k) := rfl
    have h3 : ¬ ((i - 3 : Nat) : Int) < 9 := by omega
    rw [h2, ofG_get (by omega), decide_eq_false h3]
    simp
def s_rentry (args : List AV) : Option AV :=
  match args with
  | [.c (.u p), .c (.u v), .c (.i l)] => some (.c (.u (ventryU p v l)))
  | _ => none
theorem s_rentry_eq {p v l} : s_rentry [.c (.u p), .c (.u v), .c (.i l)] = some (.c (.u (ventryU p v l))) := rfl
set_option maxRecDepth 100000 in
set_option maxHeartbeats 2000000 in
theorem ok_rentry : PuOk Try.prog 28 s_rentry := by
  refine pu_ok (tab := [(55, .pu s_rlev), (56, .pu s_rcut), (57, .pu s_rplace)]) hmix (TabOk.cons (e := .pu s_rlev) ok_rlev (TabOk.cons (e := .pu s_rcut) ok_rcut (TabOk.cons (e := .pu s_rplace) ok_rplace TabOk.nil))) Try.func28 rfl Try.results28 Try.ntmps28 (by kernel_rfl) (by kernel_rfl) ?_
  intro args v h
  unfold s_rentry at h
  split at h
  · rename_i p v l
    simp only [Option.some.injEq] at h; subst h
    refine ⟨by simp only [List.length_cons, List.length_nil]; decide, rfl, rfl, ?_⟩
    have i1 : inR 44 := ⟨by omega, by omega⟩
    have i0 : inR 0 := ⟨by omega, by omega⟩
    by_cases h : 0 ≤ l ∧ l ≤ 2
    · have e := entry_eq p v l (thB_t h)
      simp (config := { maxSteps := 10000000 }) only [go_sem, seval, s_rlev_eq, s_rcut_eq, s_rplace_eq, thB_t h, ventryU, i1, i0, low_cut, e]
    · simp (config := { maxSteps := 10000000 }) only [go_sem, seval, s_rlev_eq, s_rcut_eq, s_rplace_eq, thB_f h, ventryU]
  · simp at h
theorem live_26 : (signU 274877906944#64 39 = 274877906944#64) = False ∧ (signU 18446743798831644672#64 39 = 18446743798831644672#64) = True ∧ placeU 1075843072#64 1 = 1 ∧ ventryU 5#64 1073741824#64 2 = 20488#64 := ⟨eq_false (by simp only [signU, ofG_eqn]; decide +kernel), eq_true (by simp only [signU, ofG_eqn]; decide +kernel), by simp only [placeU, cutU, ofG_eqn]; decide +kernel, by simp only [ventryU, lowU, placeU, cutU, ofG_eqn]; decide +kernel⟩

theorem u16_wrap (x : Int) : IntKind.u16.wrap x = x % 65536 := by simp [IntKind.wrap, IntKind.bits, IntKind.signed]
theorem cut16 (s : BitVec 64) (k : Nat) (hk : k < 64) : cutU s k 16 = BitVec.ofNat 64 ((s >>> k).toNat % 65536) := by
  refine (ofG_ext fun i hi => ?_).symm
  rw [BitVec.getLsbD_ofNat, show (65536 : Nat) = 2 ^ 16 from rfl, Nat.testBit_mod_two_pow]
  have e1 : (k : Int) + (i : Int) = ((k + i : Nat) : Int) := by omega
  have e2 : decide (i < 16) = decide ((i : Int) < 16) := decide_eq_decide.2 (by omega)
  rw [e1, bitB_n, e2]
  have e3 : (s >>> k).toNat.testBit i = (s >>> k).getLsbD i := rfl
  rw [e3, BitVec.getLsbD_ushiftRight]; simp [hi]
theorem asid_eq (s : BitVec 64) : asidI s = (cutU s 44 16).toInt ∧ BitVec.ofInt 64 (asidI s) = cutU s 44 16 := by
  have h : asidI s = (((s >>> 44).toNat % 65536 : Nat) : Int) := by unfold asidI; rw [u16_wrap]; rfl
  have e := cut16 s 44 (by omega)
  have e' : cutU s 44 16 = BitVec.ofNat 64 ((s >>> 44).toNat % 65536) := e
  rw [h, e']
  constructor
  · rw [BitVec.toInt_eq_toNat_cond]; simp; omega
  · exact BitVec.ofInt_natCast ..
theorem satp_get (m a : Int) (r : BitVec 64) {i : Nat} (hi : i < 64) : (satpU m a r).getLsbD i = if i < 44 then r.getLsbD i else if i < 60 then (BitVec.ofInt 64 a).getLsbD (i - 44) else (BitVec.ofInt 64 m).getLsbD (i - 60) := by
  have h16 : BitVec.ofInt 64 (IntKind.u16.wrap a) = lowU (BitVec.ofInt 64 a) 16 := by
    have e : IntKind.u16.wrap a = (((BitVec.ofInt 64 a).toNat % 65536 : Nat) : Int) := by
      rw [u16_wrap, BitVec.toNat_ofInt]; omega
    have c := cut16 (BitVec.ofInt 64 a) 0 (by omega)
    have z : BitVec.ofInt 64 a >>> 0 = BitVec.ofInt 64 a := by simp
    rw [z] at c
    rw [e, BitVec.ofInt_natCast, ← c]
    exact low_cut _ _
  unfold satpU
  rw [h16, BitVec.getLsbD_or, BitVec.getLsbD_or, BitVec.getLsbD_shiftLeft, BitVec.getLsbD_shiftLeft]
  have l1 : (lowU r 44).getLsbD i = (decide ((i : Int) < 44) && r.getLsbD i) := ofG_get hi
  have l2 : (lowU (BitVec.ofInt 64 a) 16).getLsbD (i - 44) = (decide (((i - 44 : Nat) : Int) < 16) && (BitVec.ofInt 64 a).getLsbD (i - 44)) := ofG_get (by omega)
  rw [l1, l2]
  by_cases h1 : i < 44
  · have h1' : (i : Int) < 44 := by omega
    have h2 : i < 60 := by omega
    simp [h1, h1', h2]
  · have h1' : ¬ (i : Int) < 44 := by omega
    by_cases h2 : i < 60
    · have h3 : ((i - 44 : Nat) : Int) < 16 := by omega
      rw [decide_eq_true h3]; simp [h1, h1', h2, hi]
    · have h3 : ¬ ((i - 44 : Nat) : Int) < 16 := by omega
      rw [decide_eq_false h3]; simp [h1, h1', h2, hi]
theorem satp_put (m a : Int) (r : BitVec 64) : putU (putU (putU 0#64 0 44 r) 44 16 (BitVec.ofInt 64 a)) 60 4 (BitVec.ofInt 64 m) = satpU m a r := by
  refine (ofG_ext fun i hi => ?_).symm
  rw [satp_get m a r hi]
  by_cases h1 : i < 44
  · have p1 : inP 60 4 i = false := decide_eq_false (by omega)
    have p2 : inP 44 16 i = false := decide_eq_false (by omega)
    have p3 : inP 0 44 i = true := decide_eq_true (by omega)
    rw [p1, if_pos h1, putU, ofG_get hi, p2, putU, ofG_get hi, p3]
    simp [bitB_n]
  · by_cases h2 : i < 60
    · have p1 : inP 60 4 i = false := decide_eq_false (by omega)
      have p2 : inP 44 16 i = true := decide_eq_true (by omega)
      have e : (i : Int) - 44 = ((i - 44 : Nat) : Int) := by omega
      rw [p1, if_neg h1, if_pos h2, putU, ofG_get hi, p2, e, bitB_n]; simp
    · have p1 : inP 60 4 i = true := decide_eq_true (by omega)
      have e : (i : Int) - 60 = ((i - 60 : Nat) : Int) := by omega
      rw [p1, if_neg h1, if_neg h2, e, bitB_n]; simp
theorem satp_back (s : BitVec 64) : satpU (s >>> 60).toInt (asidI s) (lowU s 44) = s := by
  apply BitVec.eq_of_getLsbD_eq
  intro i hi
  rw [satp_get _ _ _ hi, BitVec.ofInt_toInt, (asid_eq s).2]
  have l1 : (lowU s 44).getLsbD i = (decide ((i : Int) < 44) && s.getLsbD i) := ofG_get hi
  rw [l1]
  by_cases h1 : i < 44
  · rw [if_pos h1, decide_eq_true (by omega), Bool.true_and]
  · rw [if_neg h1]
    by_cases h2 : i < 60
    · have c : (cutU s 44 16).getLsbD (i - 44) = (decide (((i - 44 : Nat) : Int) < 16) && bitB s (44 + ((i - 44 : Nat) : Int))) := ofG_get (by omega)
      have e : (44 : Int) + ((i - 44 : Nat) : Int) = (i : Int) := by omega
      rw [if_pos h2, c, e, bitB_n, decide_eq_true (by omega), Bool.true_and]
    · rw [if_neg h2, BitVec.getLsbD_ushiftRight]
      congr 1; omega

end
end Go.Proofs.Ytanblagbkhpolaa
