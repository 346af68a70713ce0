/- Layer 11: where accesses are: contracts, and the law SplitPlaces. -/
import Derived.Test.YtflcjnekmjdckaaGreatVec
namespace Go.Proofs.YtflcjnekmjdckaaGreat
open Go.Am
set_option linter.unusedSimpArgs false
set_option linter.unusedVariables false
noncomputable section

/-- how many bytes there are to the page's end -/
def room (v : BitVec 64) : Nat := 4096 - v.toNat % 4096
def scutU (v : BitVec 64) (s : Int) : Int := if s < 1 then 0 else if 8 < s then 0 else if s ≤ (room v : Int) then 0 else (room v : Int)
theorem mod4096 (v : BitVec 64) : (v % 4096#64).toInt = ((v.toNat % 4096 : Nat) : Int) := by
  rw [BitVec.toInt_eq_toNat_cond, BitVec.toNat_umod]
  have e : (4096#64).toNat = 4096 := rfl
  rw [e, if_pos (by omega)]
theorem page_same (v : BitVec 64) (k : Nat) (hk : k < 8) : ((v + BitVec.ofInt 64 (k : Int)) / 4096#64 = v / 4096#64) = (k < room v) := by
  have hv := v.isLt
  have e0 : (BitVec.ofInt 64 (k : Int)).toNat = k := ofI_nat (by omega)
  have e : (4096#64).toNat = 4096 := rfl
  have e1 : ((v + BitVec.ofInt 64 (k : Int)) / 4096#64).toNat = (v.toNat + k) % 18446744073709551616 / 4096 := by rw [BitVec.toNat_udiv, BitVec.toNat_add, e0, e]
  have e2 : (v / 4096#64).toNat = v.toNat / 4096 := by rw [BitVec.toNat_udiv, e]
  apply propext
  unfold room
  constructor
  · intro h
    have := congrArg BitVec.toNat h
    rw [e1, e2] at this
    omega
  · intro h
    apply BitVec.eq_of_toNat_eq
    rw [e1, e2]
    omega
def smB (c s : Int) : Bool := decide (1 ≤ s ∧ s ≤ 8 ∧ 0 ≤ c ∧ c < s)
def s_smay (args : List AV) : Option AV :=
  match args with
  | [.g [.u a, .u n, .i c, .i s]] => some (.c (.b (smB c s)))
  | _ => none
theorem s_smay_eq {a n c s} : s_smay [.g [.u a, .u n, .i c, .i s]] = some (.c (.b (smB c s))) := rfl
set_option maxRecDepth 100000 in
set_option maxHeartbeats 2000000 in
theorem ok_smay : PuOk Tryz.prog 56 s_smay := by
  refine pu_ok (tab := []) hmix TabOk.nil Tryz.func56 rfl Tryz.results56 Tryz.ntmps56 (by kernel_rfl) (by kernel_rfl) ?_
  intro args v h
  unfold s_smay at h
  split at h
  · rename_i a n c s
    simp only [Option.some.injEq] at h; subst h
    refine ⟨by simp only [List.length_cons, List.length_nil]; decide, rfl, rfl, ?_⟩
    by_cases h1 : 1 ≤ s
    all_goals by_cases h2 : s ≤ 8
    all_goals by_cases h3 : 0 ≤ c
    all_goals by_cases h4 : c < s
    all_goals simp (config := { maxSteps := 10000000 }) only [go_sem, seval, smB, h1, h2, h3, h4, and_false, false_and]
  · simp at h
def s_rsmay (args : List AV) : Option AV :=
  match args with
  | [.g [.u a, .u n, .i c, .i s]] => some (.c (.b (smB c s)))
  | _ => none
theorem s_rsmay_eq {a n c s} : s_rsmay [.g [.u a, .u n, .i c, .i s]] = some (.c (.b (smB c s))) := rfl
set_option maxRecDepth 100000 in
set_option maxHeartbeats 2000000 in
theorem ok_rsmay : PuOk Tryz.prog 68 s_rsmay := by
  refine pu_ok (tab := []) hmix TabOk.nil Tryz.func68 rfl Tryz.results68 Tryz.ntmps68 (by kernel_rfl) (by kernel_rfl) ?_
  intro args v h
  unfold s_rsmay at h
  split at h
  · rename_i a n c s
    simp only [Option.some.injEq] at h; subst h
    refine ⟨by simp only [List.length_cons, List.length_nil]; decide, rfl, rfl, ?_⟩
    have e1 : (0 < s) = (1 ≤ s) := propext (by omega)
    have e2 : (s < 9) = (s ≤ 8) := propext (by omega)
    by_cases h1 : 1 ≤ s
    all_goals by_cases h2 : s ≤ 8
    all_goals by_cases h3 : 0 ≤ c
    all_goals by_cases h4 : c < s
    all_goals simp (config := { maxSteps := 10000000 }) only [go_sem, seval, smB, e1, e2, h1, h2, h3, h4, and_false, false_and]
  · simp at h
def s_sline (args : List AV) : Option AV :=
  match args with
  | [.c (.u v)] => some (.c (.u (v / 64#64)))
  | _ => none
theorem s_sline_eq {v} : s_sline [.c (.u v)] = some (.c (.u (v / 64#64))) := rfl
set_option maxRecDepth 100000 in
set_option maxHeartbeats 2000000 in
theorem ok_sline : PuOk Tryz.prog 27 s_sline := by
  refine pu_ok (tab := []) hmix TabOk.nil Tryz.func27 rfl Tryz.results27 Tryz.ntmps27 (by kernel_rfl) (by kernel_rfl) ?_
  intro args v h
  unfold s_sline at h
  split at h
  · rename_i v
    simp only [Option.some.injEq] at h; subst h
    refine ⟨by simp only [List.length_cons, List.length_nil]; decide, rfl, rfl, ?_⟩
    simp (config := { maxSteps := 10000000 }) only [go_sem, seval]
  · simp at h
def stripeU (v : BitVec 64) (s : Int) : Int := if s < 1 then 0 else (v / 64#64 % BitVec.ofInt 64 s).toInt
theorem st_ne {s : Int} (h : ¬ s < 1) (hs : inR s) : (BitVec.ofInt 64 s = 0#64) = False := eq_false fun e => by
  have h1 := hs.hi
  have := congrArg BitVec.toNat e
  rw [BitVec.toNat_ofInt] at this
  simp at this
  omega
def s_sstripe (args : List AV) : Option AV :=
  match args with
  | [.c (.u v), .c (.i s)] => if inR s then some (.c (.i (stripeU v s))) else none
  | _ => none
theorem s_sstripe_eq {v s} : s_sstripe [.c (.u v), .c (.i s)] = if inR s then some (.c (.i (stripeU v s))) else none := rfl
set_option maxRecDepth 100000 in
set_option maxHeartbeats 2000000 in
theorem ok_sstripe : PuOk Tryz.prog 61 s_sstripe := by
  refine pu_ok (tab := [(27, .pu s_sline)]) hmix (TabOk.cons (e := .pu s_sline) ok_sline TabOk.nil) Tryz.func61 rfl Tryz.results61 Tryz.ntmps61 (by kernel_rfl) (by kernel_rfl) ?_
  intro args v h
  unfold s_sstripe at h
  split at h
  · rename_i v s
    split at h
    · rename_i hc
      simp only [Option.some.injEq] at h; subst h
      refine ⟨by simp only [List.length_cons, List.length_nil]; decide, rfl, rfl, ?_⟩
      by_cases h1 : s < 1
      · simp (config := { maxSteps := 10000000 }) only [go_sem, seval, s_sline_eq, stripeU, h1]
      · have e := st_ne h1 hc
        simp (config := { maxSteps := 10000000 }) only [go_sem, seval, s_sline_eq, stripeU, h1, e]
    · simp at h
  · simp at h
def s_rstripe (args : List AV) : Option AV :=
  match args with
  | [.c (.u v), .c (.i s)] => if inR s then some (.c (.i (stripeU v s))) else none
  | _ => none
theorem s_rstripe_eq {v s} : s_rstripe [.c (.u v), .c (.i s)] = if inR s then some (.c (.i (stripeU v s))) else none := rfl
set_option maxRecDepth 100000 in
set_option maxHeartbeats 2000000 in
theorem ok_rstripe : PuOk Tryz.prog 43 s_rstripe := by
  refine pu_ok (tab := []) hmix TabOk.nil Tryz.func43 rfl Tryz.results43 Tryz.ntmps43 (by kernel_rfl) (by kernel_rfl) ?_
  intro args v h
  unfold s_rstripe at h
  split at h
  · rename_i v s
    split at h
    · rename_i hc
      simp only [Option.some.injEq] at h; subst h
      refine ⟨by simp only [List.length_cons, List.length_nil]; decide, rfl, rfl, ?_⟩
      by_cases h1 : s < 1
      · simp (config := { maxSteps := 10000000 }) only [go_sem, seval, stripeU, h1]
      · have e := st_ne h1 hc
        simp (config := { maxSteps := 10000000 }) only [go_sem, seval, stripeU, h1, e]
    · simp at h
  · simp at h

/-- how many bytes there are to the line's end -/
def left (a : BitVec 64) : Nat := 64 - a.toNat % 64
def pcs (a : BitVec 64) (n s : Int) : List Sc := if n ≤ (left a : Int) then [.u a, .i n, .i s] else [.u a, .i (left a), .i s, .u (a + BitVec.ofInt 64 (left a)), .i (n - left a), .i (s + 8 * left a)]
def pcN (a : BitVec 64) (n : Int) : Nat := if n ≤ (left a : Int) then 1 else 2
theorem mod64 (v : BitVec 64) : (v % 64#64).toInt = ((v.toNat % 64 : Nat) : Int) := by
  rw [BitVec.toInt_eq_toNat_cond, BitVec.toNat_umod]
  have e : (64#64).toNat = 64 := rfl
  rw [e, if_pos (by omega)]
def s_run (args : List AV) (H : AH) : Option (AV × AH) :=
  match args with
  | [.c l0, .c (.u a), .c (.i n), .c (.i s)] =>
    if 1 ≤ n ∧ n ≤ 8 ∧ 0 ≤ s ∧ s ≤ 64 then
      match vecAt 3 H l0 with
      | some (id, cs, k) => if k ≤ 1000 then some (.c (.sl id 0 (cs.length + 3 * pcN a n) (k + pcN a n)), vecPut 3 H l0 (cs ++ pcs a n s)) else none
      | none => none
    else none
  | _ => none
theorem s_run_eq {H : AH} {l0 : Sc} {a : BitVec 64} {n s : Int} {id k : Nat} {cs : List Sc} (h : 1 ≤ n ∧ n ≤ 8 ∧ 0 ≤ s ∧ s ≤ 64) (hv : vecAt 3 H l0 = some (id, cs, k)) (hk : k ≤ 1000) : s_run [.c l0, .c (.u a), .c (.i n), .c (.i s)] H = some (.c (.sl id 0 (cs.length + 3 * pcN a n) (k + pcN a n)), vecPut 3 H l0 (cs ++ pcs a n s)) := by
  simp only [s_run, h, hv, hk, and_self, if_true]
theorem len_run (args : List AV) (H : AH) (v : AV) (H1 : AH) (h : s_run args H = some (v, H1)) : H.length ≤ H1.length := by
  unfold s_run at h
  split at h
  · rename_i l0 a n s
    split at h
    · split at h
      · split at h
        · simp only [Option.some.injEq, Prod.mk.injEq] at h
          rw [← h.2]
          unfold vecPut
          split <;> simp
        · simp at h
      · simp at h
    · simp at h
  · simp at h
set_option maxRecDepth 100000 in
set_option maxHeartbeats 2000000 in
theorem ok_run : FpOk Tryz.prog 60 s_run := by
  refine fp_ok (s := s_run) (tab := []) hmix TabOk.nil Tryz.func60 rfl Tryz.results60 Tryz.ntmps60 (by kernel_rfl) (by kernel_rfl) len_run ?_
  intro args H v H1 h hargs hH
  unfold s_run at h
  split at h
  · rename_i l0 a n s
    split at h
    · rename_i hc
      obtain ⟨hn1, hn8, hs0, hs64⟩ := hc
      split at h
      · rename_i id cs k0 hv
        split at h
        · rename_i hk0
          simp only [Option.some.injEq, Prod.mk.injEq] at h
          obtain ⟨rfl, rfl⟩ := h
          have V := vec_ok (by decide) hH hv
          generalize vecPut 3 H l0 = HH at V
          have g0 := V.get0
          have g1 := V.get
          have g2 := V.set0
          have g3 := V.set
          have hl0 := V.len
          refine ⟨by simp only [List.length_cons, List.length_nil]; decide, ?_⟩
          have d1 : w64 (64 - ((a.toNat % 64 : Nat) : Int)) = (left a : Int) := by rw [w64_of (by omega)]; unfold left; omega
          have d2 : 1 ≤ left a ∧ left a ≤ 64 := by unfold left; omega
          have d3 : ((k0 + 1) * 24 ≤ 1099511627776) = True := eq_true (by omega)
          have d3b : ((k0 + 1 + 1) * 24 ≤ 1099511627776) = True := eq_true (by omega)
          simp (config := { maxSteps := 10000000 }) only [go_sem, seval]
          rw [arun_loop]
          by_cases hb : n ≤ (left a : Int)
          · have e1 : min n (left a : Int) = n := by omega
            have hp : pcs a n s = [.u a, .i n, .i s] := by simp only [pcs, hb, if_true]
            have hq : pcN a n = 1 := by simp only [pcN, hb, if_true]
            have e2 : (0 < n) = True := eq_true (by omega)
            have e3 : w64 (n - n) = 0 := by rw [w64_of (by omega)]; omega
            have e4 : (cs.length = k0 * 3) = True := eq_true hl0
            have hb1 := V.bel [.u a, .i n, .i s] rfl
            have hb0 := V.bel [] rfl
            rw [List.append_nil] at hb0
            refine ⟨Bool, fun k => if k = true then ([(0, .c (.sl id 0 cs.length k0)), (1, .c (.u a)), (2, .c (.i n)), (3, .c (.i s))], HH cs) else ([(0, .c (.sl id 0 (cs.length + 3) (k0 + 1))), (2, .c (.i 0))], HH (cs ++ [.u a, .i n, .i s])), fun k => k.toNat, true, ?_, ?_⟩
            · exact Wk.trans (V.start _ 0 (by simp [Am.get])) (Wk.wk (V.ge _) (by simp [Am.get]) (by simp [AV.bel, Sc.bel, V.hid]) (subH_refl _) hb0)
            · rintro (_ | _)
              · simp (config := { maxSteps := 10000000 }) only [go_sem, seval, hp, hq]
                exact ⟨_, rfl, Wk.wk (V.ge _) (by simp [Am.get]) (by simp [AV.bel, Sc.bel, V.hid]) (subH_refl _) hb1⟩
              · simp (config := { maxSteps := 10000000 }) only [go_sem, seval, mod64, d1, d3, d3b, e1, e2, e3, e4, g0, g1, g2, g3]
                exact ⟨false, by decide, Wk.wk (V.ge _) (by simp [Am.get]) (by simp [AV.bel, Sc.bel, V.hid]) (subH_app _ _) hb1⟩
          · obtain ⟨m, hm⟩ : ∃ m, left a = m := ⟨_, rfl⟩
            have hp : pcs a n s = [.u a, .i m, .i s, .u (a + BitVec.ofInt 64 m), .i (n - m), .i (s + 8 * m)] := by unfold pcs; rw [if_neg hb, hm]
            have hq : pcN a n = 2 := by simp only [pcN, hb, if_false]
            rw [hm] at d1 d2 hb
            have e1 : min n (m : Int) = m := by omega
            have e2 : (0 < n) = True := eq_true (by omega)
            have e3 : w64 (n - m) = n - m := w64_of (by omega)
            have e4 : (cs.length = k0 * 3) = True := eq_true hl0
            have e5 : w64 (s + w64 (8 * (m : Int))) = s + 8 * m := by rw [w64_of (n := 8 * (m : Int)) (by omega)]; exact w64_of (by omega)
            have e6 : w64 (n - m - (n - m)) = 0 := by rw [w64_of (by omega)]; omega
            have e7 : (cs.length + 3 = (k0 + 1) * 3) = True := eq_true (by omega)
            have e8 : (0 < n - m) = True := eq_true (by omega)
            have d4 : (a + BitVec.ofInt 64 (m : Int)).toNat % 64 = 0 := by
              have e0 : (BitVec.ofInt 64 (m : Int)).toNat = m := ofI_nat (by omega)
              rw [BitVec.toNat_add, e0, ← hm]; unfold left; omega
            have d5 : w64 64 = 64 := by decide
            have d6 : min (n - (m : Int)) 64 = n - m := by omega
            have hb2 := V.bel [.u a, .i m, .i s, .u (a + BitVec.ofInt 64 m), .i (n - m), .i (s + 8 * m)] rfl
            have hb1 := V.bel [.u a, .i m, .i s] rfl
            have hb0 := V.bel [] rfl
            rw [List.append_nil] at hb0
            refine ⟨Option Bool, fun k => (match k with
              | none => ([(0, .c (.sl id 0 (cs.length + 6) (k0 + 2))), (2, .c (.i 0))], HH (cs ++ [.u a, .i m, .i s, .u (a + BitVec.ofInt 64 m), .i (n - m), .i (s + 8 * m)]))
              | some true => ([(0, .c (.sl id 0 cs.length k0)), (1, .c (.u a)), (2, .c (.i n)), (3, .c (.i s))], HH cs)
              | some false => ([(0, .c (.sl id 0 (cs.length + 3) (k0 + 1))), (1, .c (.u (a + BitVec.ofInt 64 m))), (2, .c (.i (n - m))), (3, .c (.i (s + 8 * m)))], HH (cs ++ [.u a, .i m, .i s]))), fun k => (match k with
              | none => 0
              | some true => 2
              | some false => 1), some true, ?_, ?_⟩
            · exact Wk.trans (V.start _ 0 (by simp [Am.get])) (Wk.wk (V.ge _) (by simp [Am.get]) (by simp [AV.bel, Sc.bel, V.hid]) (subH_refl _) hb0)
            · rintro (_ | _ | _)
              · simp (config := { maxSteps := 10000000 }) only [go_sem, seval, hp, hq]
                exact ⟨_, rfl, Wk.wk (V.ge _) (by simp [Am.get]) (by simp [AV.bel, Sc.bel, V.hid]) (subH_refl _) hb2⟩
              · simp (config := { maxSteps := 10000000 }) only [go_sem, seval, mod64, d1, d3, d3b, d4, d5, d6, e1, e2, e3, e4, e5, e6, e7, e8, g0, g1, g2, g3]
                exact ⟨none, by decide, Wk.wk (V.ge _) (by simp [Am.get]) (by simp [AV.bel, Sc.bel, V.hid]) (subH_app _ _) hb2⟩
              · simp (config := { maxSteps := 10000000 }) only [go_sem, seval, mod64, d1, d3, d3b, e1, e2, e3, e4, e5, g0, g1, g2, g3]
                exact ⟨some false, by decide, Wk.wk (V.ge _) (by simp [Am.get]) (by simp [AV.bel, Sc.bel, V.hid]) (subH_app _ _) hb1⟩
        · simp at h
      · simp at h
    · simp at h
  · simp at h

end
end Go.Proofs.YtflcjnekmjdckaaGreat
