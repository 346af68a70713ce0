/- Layer 11: where accesses are; pieces: contracts -/
import Derived.Test.YtanblagbkhpolaaVec
namespace Go.Proofs.Ytanblagbkhpolaa
open Go.Am
set_option linter.unusedSimpArgs false
set_option linter.unusedVariables false
noncomputable section

/-! ## XS1 -/
/-- how many bytes there are to the page's end -/
def room (v : BitVec 64) : Nat := 4096 - v.toNat % 4096
def scutU (v : BitVec 64) (s : Int) : Int := if s < 1 then 0 else if 8 < s then 0 else if s ≤ (room v : Int) then 0 else (room v : Int)
theorem mod4096 (v : BitVec 64) : (v % 4096#64).toInt = ((v.toNat % 4096 : Nat) : Int) := by
  rw [BitVec.toInt_eq_toNat_cond, BitVec.toNat_umod]
  have e : (4096#64).toNat = 4096 := rfl
  rw [e, if_pos (by omega)]
theorem page_same (v : BitVec 64) (k : Nat) (hk : k < 8) : ((v + BitVec.ofInt 64 (k : Int)) / 4096#64 = v / 4096#64) = (k < room v) := by
  have hv := v.isLt
  have e0 : (BitVec.ofInt 64 (k : Int)).toNat = k := ofI_nat (by omega)
  have e : (4096#64).toNat = 4096 := rfl
  have e1 : ((v + BitVec.ofInt 64 (k : Int)) / 4096#64).toNat = (v.toNat + k) % 18446744073709551616 / 4096 := by rw [BitVec.toNat_udiv, BitVec.toNat_add, e0, e]
  have e2 : (v / 4096#64).toNat = v.toNat / 4096 := by rw [BitVec.toNat_udiv, e]
  apply propext
  unfold room
  constructor
  · intro h
    have := congrArg BitVec.toNat h
    rw [e1, e2] at this
    omega
  · intro h
    apply BitVec.eq_of_toNat_eq
    rw [e1, e2]
    omega
def smB (c s : Int) : Bool := decide (1 ≤ s ∧ s ≤ 8 ∧ 0 ≤ c ∧ c < s)
def s_smay (args : List AV) : Option AV :=
  match args with
  | [.g [.u a, .u n, .i c, .i s]] => some (.c (.b (smB c s)))
  | _ => none
theorem s_smay_eq {a n c s} : s_smay [.g [.u a, .u n, .i c, .i s]] = some (.c (.b (smB c s))) := rfl
set_option maxRecDepth 100000 in
set_option maxHeartbeats 2000000 in
theorem ok_smay : PuOk Try.prog 82 s_smay := by
  refine pu_ok (tab := []) hmix TabOk.nil Try.func82 rfl Try.results82 Try.ntmps82 (by kernel_rfl) (by kernel_rfl) ?_
  intro args v h
  unfold s_smay at h
  split at h
  · rename_i a n c s
    simp only [Option.some.injEq] at h; subst h
    refine ⟨by simp only [List.length_cons, List.length_nil]; decide, rfl, rfl, ?_⟩
    by_cases h1 : 1 ≤ s
    all_goals by_cases h2 : s ≤ 8
    all_goals by_cases h3 : 0 ≤ c
    all_goals by_cases h4 : c < s
    all_goals simp (config := { maxSteps := 10000000 }) only [go_sem, seval, smB, h1, h2, h3, h4, and_false, false_and]
  · simp at h
def s_sline (args : List AV) : Option AV :=
  match args with
  | [.c (.u v)] => some (.c (.u (v / 64#64)))
  | _ => none
theorem s_sline_eq {v} : s_sline [.c (.u v)] = some (.c (.u (v / 64#64))) := rfl
set_option maxRecDepth 100000 in
set_option maxHeartbeats 2000000 in
theorem ok_sline : PuOk Try.prog 42 s_sline := by
  refine pu_ok (tab := []) hmix TabOk.nil Try.func42 rfl Try.results42 Try.ntmps42 (by kernel_rfl) (by kernel_rfl) ?_
  intro args v h
  unfold s_sline at h
  split at h
  · rename_i v
    simp only [Option.some.injEq] at h; subst h
    refine ⟨by simp only [List.length_cons, List.length_nil]; decide, rfl, rfl, ?_⟩
    simp (config := { maxSteps := 10000000 }) only [go_sem, seval]
  · simp at h
def stripeU (v : BitVec 64) (s : Int) : Int := if s < 1 then 0 else (v / 64#64 % BitVec.ofInt 64 s).toInt
theorem st_ne {s : Int} (h : ¬ s < 1) (hs : inR s) : (BitVec.ofInt 64 s = 0#64) = False := eq_false fun e => by
  have h1 := hs.hi
  have := congrArg BitVec.toNat e
  rw [BitVec.toNat_ofInt] at this
  simp at this
  omega

/-- how many bytes there are to the line's end -/
def left (a : BitVec 64) : Nat := 64 - a.toNat % 64
def pcs (a : BitVec 64) (n s : Int) : List Sc := if n ≤ (left a : Int) then [.u a, .i n, .i s] else [.u a, .i (left a), .i s, .u (a + BitVec.ofInt 64 (left a)), .i (n - left a), .i (s + 8 * left a)]
def pcN (a : BitVec 64) (n : Int) : Nat := if n ≤ (left a : Int) then 1 else 2
theorem mod64 (v : BitVec 64) : (v % 64#64).toInt = ((v.toNat % 64 : Nat) : Int) := by
  rw [BitVec.toInt_eq_toNat_cond, BitVec.toNat_umod]
  have e : (64#64).toNat = 64 := rfl
  rw [e, if_pos (by omega)]
def s_run (args : List AV) (H : AH) : Option (AV × AH) :=
  match args with
  | [.c l0, .c (.u a), .c (.i n), .c (.i s)] =>
    if 1 ≤ n ∧ n ≤ 8 ∧ 0 ≤ s ∧ s ≤ 64 then
      match vecAt 3 H l0 with
      | some (id, cs, k) => if k ≤ 1000 then some (.c (.sl id 0 (cs.length + 3 * pcN a n) (k + pcN a n)), vecPut 3 H l0 (cs ++ pcs a n s)) else none
      | none => none
    else none
  | _ => none
theorem s_run_eq {H : AH} {l0 : Sc} {a : BitVec 64} {n s : Int} {id k : Nat} {cs : List Sc} (h : 1 ≤ n ∧ n ≤ 8 ∧ 0 ≤ s ∧ s ≤ 64) (hv : vecAt 3 H l0 = some (id, cs, k)) (hk : k ≤ 1000) : s_run [.c l0, .c (.u a), .c (.i n), .c (.i s)] H = some (.c (.sl id 0 (cs.length + 3 * pcN a n) (k + pcN a n)), vecPut 3 H l0 (cs ++ pcs a n s)) := by
  simp only [s_run, h, hv, hk, and_self, if_true]
theorem len_run (args : List AV) (H : AH) (v : AV) (H1 : AH) (h : s_run args H = some (v, H1)) : H.length ≤ H1.length := by
  unfold s_run at h
  split at h
  · rename_i l0 a n s
    split at h
    · split at h
      · split at h
        · simp only [Option.some.injEq, Prod.mk.injEq] at h
          rw [← h.2]
          unfold vecPut
          split <;> simp
        · simp at h
      · simp at h
    · simp at h
  · simp at h
set_option maxRecDepth 100000 in
set_option maxHeartbeats 2000000 in
theorem ok_run : FpOk Try.prog 86 s_run := by
  refine fp_ok (s := s_run) (tab := []) hmix TabOk.nil Try.func86 rfl Try.results86 Try.ntmps86 (by kernel_rfl) (by kernel_rfl) len_run ?_
  intro args H v H1 h hargs hH
  unfold s_run at h
  split at h
  · rename_i l0 a n s
    split at h
    · rename_i hc
      obtain ⟨hn1, hn8, hs0, hs64⟩ := hc
      split at h
      · rename_i id cs k0 hv
        split at h
        · rename_i hk0
          simp only [Option.some.injEq, Prod.mk.injEq] at h
          obtain ⟨rfl, rfl⟩ := h
          have V := vec_ok (by decide) hH hv
          generalize vecPut 3 H l0 = HH at V
          have g0 := V.get0
          have g1 := V.get
          have g2 := V.set0
          have g3 := V.set
          have hl0 := V.len
          refine ⟨by simp only [List.length_cons, List.length_nil]; decide, ?_⟩
          have d1 : w64 (64 - ((a.toNat % 64 : Nat) : Int)) = (left a : Int) := by rw [w64_of (by omega)]; unfold left; omega
          have d2 : 1 ≤ left a ∧ left a ≤ 64 := by unfold left; omega
          have d3 : ((k0 + 1) * 24 ≤ 1099511627776) = True := eq_true (by omega)
          have d3b : ((k0 + 1 + 1) * 24 ≤ 1099511627776) = True := eq_true (by omega)
          simp (config := { maxSteps := 10000000 }) only [go_sem, seval]
          rw [arun_loop]
          by_cases hb : n ≤ (left a : Int)
          · have e1 : min n (left a : Int) = n := by omega
            have hp : pcs a n s = [.u a, .i n, .i s] := by simp only [pcs, hb, if_true]
            have hq : pcN a n = 1 := by simp only [pcN, hb, if_true]
            have e2 : (0 < n) = True := eq_true (by omega)
            have e3 : w64 (n - n) = 0 := by rw [w64_of (by omega)]; omega
            have e4 : (cs.length = k0 * 3) = True := eq_true hl0
            have hb1 := V.bel [.u a, .i n, .i s] rfl
            have hb0 := V.bel [] rfl
            rw [List.append_nil] at hb0
            refine ⟨Bool, fun k => if k = true then ([(0, .c (.sl id 0 cs.length k0)), (1, .c (.u a)), (2, .c (.i n)), (3, .c (.i s))], HH cs) else ([(0, .c (.sl id 0 (cs.length + 3) (k0 + 1))), (2, .c (.i 0))], HH (cs ++ [.u a, .i n, .i s])), fun k => k.toNat, true, ?_, ?_⟩
            · exact Wk.trans (V.start _ 0 (by simp [Am.get])) (Wk.wk (V.ge _) (by simp [Am.get]) (by simp [AV.bel, Sc.bel, V.hid]) (subH_refl _) hb0)
            · rintro (_ | _)
              · simp (config := { maxSteps := 10000000 }) only [go_sem, seval, hp, hq]
                exact ⟨_, rfl, Wk.wk (V.ge _) (by simp [Am.get]) (by simp [AV.bel, Sc.bel, V.hid]) (subH_refl _) hb1⟩
              · simp (config := { maxSteps := 10000000 }) only [go_sem, seval, mod64, d1, d3, d3b, e1, e2, e3, e4, g0, g1, g2, g3]
                exact ⟨false, by decide, Wk.wk (V.ge _) (by simp [Am.get]) (by simp [AV.bel, Sc.bel, V.hid]) (subH_app _ _) hb1⟩
          · obtain ⟨m, hm⟩ : ∃ m, left a = m := ⟨_, rfl⟩
            have hp : pcs a n s = [.u a, .i m, .i s, .u (a + BitVec.ofInt 64 m), .i (n - m), .i (s + 8 * m)] := by unfold pcs; rw [if_neg hb, hm]
            have hq : pcN a n = 2 := by simp only [pcN, hb, if_false]
            rw [hm] at d1 d2 hb
            have e1 : min n (m : Int) = m := by omega
            have e2 : (0 < n) = True := eq_true (by omega)
            have e3 : w64 (n - m) = n - m := w64_of (by omega)
            have e4 : (cs.length = k0 * 3) = True := eq_true hl0
            have e5 : w64 (s + w64 (8 * (m : Int))) = s + 8 * m := by rw [w64_of (n := 8 * (m : Int)) (by omega)]; exact w64_of (by omega)
            have e6 : w64 (n - m - (n - m)) = 0 := by rw [w64_of (by omega)]; omega
            have e7 : (cs.length + 3 = (k0 + 1) * 3) = True := eq_true (by omega)
            have e8 : (0 < n - m) = True := eq_true (by omega)
            have d4 : (a + BitVec.ofInt 64 (m : Int)).toNat % 64 = 0 := by
              have e0 : (BitVec.ofInt 64 (m : Int)).toNat = m := ofI_nat (by omega)
              rw [BitVec.toNat_add, e0, ← hm]; unfold left; omega
            have d5 : w64 64 = 64 := by decide
            have d6 : min (n - (m : Int)) 64 = n - m := by omega
            have hb2 := V.bel [.u a, .i m, .i s, .u (a + BitVec.ofInt 64 m), .i (n - m), .i (s + 8 * m)] rfl
            have hb1 := V.bel [.u a, .i m, .i s] rfl
            have hb0 := V.bel [] rfl
            rw [List.append_nil] at hb0
            refine ⟨Option Bool, fun k => (match k with
              | none => ([(0, .c (.sl id 0 (cs.length + 6) (k0 + 2))), (2, .c (.i 0))], HH (cs ++ [.u a, .i m, .i s, .u (a + BitVec.ofInt 64 m), .i (n - m), .i (s + 8 * m)]))
              | some true => ([(0, .c (.sl id 0 cs.length k0)), (1, .c (.u a)), (2, .c (.i n)), (3, .c (.i s))], HH cs)
              | some false => ([(0, .c (.sl id 0 (cs.length + 3) (k0 + 1))), (1, .c (.u (a + BitVec.ofInt 64 m))), (2, .c (.i (n - m))), (3, .c (.i (s + 8 * m)))], HH (cs ++ [.u a, .i m, .i s]))), fun k => (match k with
              | none => 0
              | some true => 2
              | some false => 1), some true, ?_, ?_⟩
            · exact Wk.trans (V.start _ 0 (by simp [Am.get])) (Wk.wk (V.ge _) (by simp [Am.get]) (by simp [AV.bel, Sc.bel, V.hid]) (subH_refl _) hb0)
            · rintro (_ | _ | _)
              · simp (config := { maxSteps := 10000000 }) only [go_sem, seval, hp, hq]
                exact ⟨_, rfl, Wk.wk (V.ge _) (by simp [Am.get]) (by simp [AV.bel, Sc.bel, V.hid]) (subH_refl _) hb2⟩
              · simp (config := { maxSteps := 10000000 }) only [go_sem, seval, mod64, d1, d3, d3b, d4, d5, d6, e1, e2, e3, e4, e5, e6, e7, e8, g0, g1, g2, g3]
                exact ⟨none, by decide, Wk.wk (V.ge _) (by simp [Am.get]) (by simp [AV.bel, Sc.bel, V.hid]) (subH_app _ _) hb2⟩
              · simp (config := { maxSteps := 10000000 }) only [go_sem, seval, mod64, d1, d3, d3b, e1, e2, e3, e4, e5, g0, g1, g2, g3]
                exact ⟨some false, by decide, Wk.wk (V.ge _) (by simp [Am.get]) (by simp [AV.bel, Sc.bel, V.hid]) (subH_app _ _) hb1⟩
        · simp at h
      · simp at h
    · simp at h
  · simp at h

/-! ## XS2 -/
/-- an access' pieces -/
def accL (a b : BitVec 64) (c s : Int) : List Sc := if smB c s = true then (if c = 0 then pcs a s 0 else pcs a c 0 ++ pcs b (s - c) (8 * c)) else []
def accN (a b : BitVec 64) (c s : Int) : Nat := if smB c s = true then (if c = 0 then pcN a s else pcN a c + pcN b (s - c)) else 0
theorem pcs_len {a : BitVec 64} {n s : Int} : (pcs a n s).length = 3 * pcN a n := by unfold pcs pcN; split <;> rfl
theorem pcN_le {a : BitVec 64} {n : Int} : 1 ≤ pcN a n ∧ pcN a n ≤ 2 := by unfold pcN; split <;> omega
def s_pieces (args : List AV) (H : AH) : Option (AV × AH) :=
  match args with
  | [.g [.u a, .u b, .i c, .i s]] => if smB c s = true then some (.c (.sl (H.length + 1) 0 (3 * accN a b c s) (accN a b c s)), H ++ [.dead, .vec 3 (accL a b c s)]) else some (.c .nils, H)
  | _ => none
theorem s_pieces_eq {a b : BitVec 64} {c s : Int} {H : AH} : s_pieces [.g [.u a, .u b, .i c, .i s]] H = if smB c s = true then some (.c (.sl (H.length + 1) 0 (3 * accN a b c s) (accN a b c s)), H ++ [.dead, .vec 3 (accL a b c s)]) else some (.c .nils, H) := rfl
theorem len_pieces (args : List AV) (H : AH) (v : AV) (H1 : AH) (h : s_pieces args H = some (v, H1)) : H.length ≤ H1.length := by
  unfold s_pieces at h
  split at h
  · split at h
    all_goals simp only [Option.some.injEq, Prod.mk.injEq] at h
    all_goals rw [← h.2]
    all_goals simp
  · simp at h
theorem pcs_pf {a : BitVec 64} {n s : Int} : (pcs a n s).all Sc.pf = true := by unfold pcs; split <;> rfl
theorem subH_dead1 (H : AH) (x y : AObj) : subH (H ++ [.dead, y]) (H ++ [x, y]) := by
  induction H with
  | nil => exact ⟨.inl rfl, .inr rfl, trivial⟩
  | cons o r ih => exact ⟨.inr rfl, ih⟩
theorem bel_app2 {H : AH} {o : AObj} (hH : belH H = true) (ho : o.scs.all (Sc.bel (H.length + 2)) = true) : belH (H ++ [.dead, o]) = true := by
  simp only [belH, List.all_append, List.all_cons, List.all_nil, Bool.and_true, Bool.and_eq_true, List.length_append, List.length_cons, List.length_nil]
  refine ⟨List.all_eq_true.2 fun x hx => List.all_eq_true.2 fun s hs => ?_, rfl, ho⟩
  have := List.all_eq_true.1 (List.all_eq_true.1 hH x hx) s hs
  exact Sc.bel_mono this (by omega)
set_option maxRecDepth 100000 in
set_option maxHeartbeats 2000000 in
theorem ok_pieces : FpOk Try.prog 63 s_pieces := by
  refine fp_ok (s := s_pieces) (tab := [(82, .pu s_smay), (86, .fp s_run)]) hmix (TabOk.cons (e := .pu s_smay) ok_smay (TabOk.cons (e := .fp s_run) ok_run TabOk.nil)) Try.func63 rfl Try.results63 Try.ntmps63 (by kernel_rfl) (by kernel_rfl) len_pieces ?_
  intro args H v H1 h hargs hH
  unfold s_pieces at h
  split at h
  · rename_i a b c s
    split at h
    · rename_i hm
      simp only [Option.some.injEq, Prod.mk.injEq] at h
      obtain ⟨rfl, rfl⟩ := h
      refine ⟨by simp only [List.length_cons, List.length_nil]; decide, ?_⟩
      have hm' : 1 ≤ s ∧ s ≤ 8 ∧ 0 ≤ c ∧ c < s := by simpa [smB] using hm
      by_cases hc : c = 0
      · subst hc
        have r := s_run_eq (H := H ++ [.own [.u a, .u b, .i 0, .i s]]) (l0 := .nils) (a := a) (n := s) (s := 0) (by omega) vecAt_nils (by omega)
        have n1 : accN a b 0 s = pcN a s := by simp only [accN, hm, if_true]
        have n2 : accL a b 0 s = pcs a s 0 := by simp only [accL, hm, if_true]
        simp (config := { maxSteps := 10000000 }) only [go_sem, seval, s_smay_eq, s_run_eq, hm, r]
        exact ⟨_, rfl, Wk.wk (by simp [lo]) (by simp [Am.get, n1]) (by simp [AV.bel, Sc.bel]) (by rw [vecPut_nils, n2, List.append_assoc]; exact subH_dead1 H _ _) (by rw [n2]; exact bel_app2 hH (pf_bel _ pcs_pf))⟩
      · have r := s_run_eq (H := H ++ [.own [.u a, .u b, .i c, .i s]]) (l0 := .nils) (a := a) (n := c) (s := 0) (by omega) vecAt_nils (by omega)
        have f1 : (H ++ [AObj.own [.u a, .u b, .i c, .i s]]).length = H.length + 1 := by simp
        have pa := @pcN_le a c
        have la := @pcs_len a c 0
        have e1 : w64 (s - c) = s - c := w64_of (by omega)
        have e2 : w64 (8 * c) = 8 * c := w64_of (by omega)
        have n1 : accN a b c s = pcN a c + pcN b (s - c) := by simp only [accN, hm, hc, if_true, if_false]
        have n2 : accL a b c s = pcs a c 0 ++ pcs b (s - c) (8 * c) := by simp only [accL, hm, hc, if_true, if_false]
        have r2 := s_run_eq (H := vecPut 3 (H ++ [.own [.u a, .u b, .i c, .i s]]) .nils ([] ++ pcs a c 0)) (l0 := .sl (H.length + 1) 0 (3 * pcN a c) (pcN a c)) (a := b) (n := s - c) (s := 8 * c) (id := H.length + 1) (cs := pcs a c 0) (k := pcN a c) (by omega)
          (vecAt_sl (by rw [vecPut_nils, List.append_assoc]; exact hg_len_add) (by omega) la.symm) (by omega)
        rw [vecPut_sl, vecPut_nils, List.append_assoc, set_len_add] at r2
        simp only [List.cons_append, List.nil_append, List.set_cons_succ, List.set_cons_zero] at r2
        simp (config := { maxSteps := 10000000 }) only [go_sem, seval, s_smay_eq, s_run_eq, hm, hc, r, vecPut_nils, e1, e2, r2]
        exact ⟨by decide, _, rfl, Wk.wk (by simp [lo]) (by simp [Am.get, n1, la]; omega) (by simp [AV.bel, Sc.bel]) (by rw [n2]; exact subH_dead1 H _ _) (by rw [n2]; exact bel_app2 hH (pf_bel _ (by show (pcs a c 0 ++ pcs b (s - c) (8 * c)).all Sc.pf = true; rw [List.all_append, Bool.and_eq_true]; exact ⟨pcs_pf, pcs_pf⟩)))⟩
    · rename_i hm
      simp only [Option.some.injEq, Prod.mk.injEq] at h
      obtain ⟨rfl, rfl⟩ := h
      refine ⟨by simp only [List.length_cons, List.length_nil]; decide, ?_⟩
      simp (config := { maxSteps := 10000000 }) only [go_sem, seval, s_smay_eq, s_run_eq, hm]
      exact ⟨_, rfl, Wk.wk (by simp [lo]) (by simp [Am.get]) rfl (subH_app _ _) hH⟩
  · simp at h

end
end Go.Proofs.Ytanblagbkhpolaa
