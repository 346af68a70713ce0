/- Layer 13: tables of reservations, by themselves and within structs: contracts -/
import Derived.Test.YtcbhelkafelofaaGreatFl3
import Derived.Test.YtcbhelkafelofaaGreatTy
namespace Go.Proofs.YtcbhelkafelofaaGreat
open Go.Am
set_option linter.unusedSimpArgs false
set_option linter.unusedVariables false
noncomputable section

structure Sl where
  is : Bool
  ln : BitVec 64
def slC (x : Sl) : List Sc := [.b x.is, .u x.ln]
def dcS : List Sc → Option Sl
  | [.b q, .u l] => some ⟨q, l⟩
  | _ => none
theorem dcS_e (x : Sl) : dcS (slC x) = some x := rfl
theorem dcS_d (cs : List Sc) (x : Sl) (h : dcS cs = some x) : cs = slC x := by
  unfold dcS at h
  split at h
  · simp only [Option.some.injEq] at h; subst h; rfl
  · simp at h
theorem slC_l (x : Sl) : (slC x).length = 2 := rfl
def z0 : Sl := ⟨false, 0#64⟩
def tabC (R : List Sl) : List Sc := R.flatMap slC
def tabD : AObj → Option (List Sl)
  | .own cs => if cs.length = 16 then decN 2 dcS 8 cs else none
  | _ => none
theorem tabD_inv {o : AObj} {R : List Sl} (h : tabD o = some R) : R.length = 8 ∧ o = .own (tabC R) := by
  unfold tabD at h
  split at h
  · split at h
    · rename_i hc
      obtain ⟨h1, h2⟩ := decN_dec (w := 2) (f := slC) dcS_d 8 _ R hc h
      exact ⟨h1, by rw [h2]; rfl⟩
    · simp at h
  · simp at h
theorem tabC_l {R : List Sl} (h : R.length = 8) : (tabC R).length = 16 := by unfold tabC; rw [fm_len slC_l, h]
theorem tabC_bel (R : List Sl) (n : Nat) : (tabC R).all (Sc.bel n) = true := by unfold tabC; rw [List.all_flatMap]; exact List.all_eq_true.2 fun _ _ => rfl
def in8 (h : Int) : Bool := decide (0 ≤ h) && decide (h < 8)
theorem in8_nat {h : Int} (x : in8 h = true) : ∃ k : Nat, h = k ∧ k < 8 := by
  simp only [in8, Bool.and_eq_true, decide_eq_true_eq] at x
  exact ⟨h.toNat, by omega, by omega⟩
theorem in8_k {k : Nat} (h : k < 8) : in8 (k : Int) = true := by simp [in8]; omega
def at8 (R : List Sl) (h : Int) : Sl := if in8 h = true then R.getD h.toNat z0 else z0
def setT (R : List Sl) (h : Int) (x : Sl) : List Sl := if in8 h = true then R.set h.toNat x else R
theorem setT_l {R : List Sl} {h : Int} {x : Sl} : (setT R h x).length = R.length := by unfold setT; split <;> simp
def hasT (R : List Sl) (h : Int) (l : BitVec 64) : Bool := in8 h && ((at8 R h).is && decide ((at8 R h).ln = l))
def s_vin (args : List AV) : Option AV :=
  match args with
  | [.c (.i h)] => some (.c (.b (in8 h)))
  | _ => none
theorem s_vin_eq {h} : s_vin [.c (.i h)] = some (.c (.b (in8 h))) := rfl
set_option maxRecDepth 100000 in
set_option maxHeartbeats 2000000 in
theorem ok_vin : PuOk Tryz.prog 57 s_vin := by
  refine pu_ok (tab := []) hmix TabOk.nil Tryz.func57 rfl Tryz.results57 Tryz.ntmps57 (by kernel_rfl) (by kernel_rfl) ?_
  intro args v h
  unfold s_vin at h
  split at h
  · rename_i h
    simp only [Option.some.injEq] at h; subst h
    refine ⟨by simp only [List.length_cons, List.length_nil]; decide, rfl, rfl, ?_⟩
    by_cases h1 : 0 ≤ h
    all_goals (try simp (config := { maxSteps := 10000000 }) only [go_sem, seval, in8, h1]; repeat (simp (disch := omega) only [w64_d, ipos, ineg, dpos, dneg]; try simp (config := { maxSteps := 10000000 }) only [go_sem, seval, in8, h1]))
  · simp at h
def tabP (H : AH) : Sc → Option (Option (List Sl))
  | .nilp => some none
  | .p id 0 0 => (tabD (hg H id)).map some
  | _ => none
theorem tabP_inv {H : AH} {x : Sc} {r : Option (List Sl)} (h : tabP H x = some r) : (x = .nilp ∧ r = none) ∨ ∃ id R, x = .p id 0 0 ∧ r = some R ∧ R.length = 8 ∧ hg H id = .own (tabC R) := by
  unfold tabP at h
  split at h
  · simp at h; exact .inl ⟨rfl, h.symm⟩
  · rw [Option.map_eq_some_iff] at h
    obtain ⟨R, h1, h2⟩ := h
    obtain ⟨h3, h4⟩ := tabD_inv h1
    exact .inr ⟨_, R, rfl, h2.symm, h3, h4⟩
  · simp at h
def setP (H : AH) (x : Sc) (R : List Sl) : AH :=
  match x with
  | .p id _ _ => H.set id (.own (tabC R))
  | _ => H
theorem setP_len {H : AH} {x : Sc} {R : List Sl} : (setP H x R).length = H.length := by unfold setP; split <;> simp
theorem sl_cell {R : List Sl} {k : Nat} {x : Sl} (h : R[k]? = some x) : (tabC R).getD (k * 2) .any = .b x.is ∧ (tabC R).getD (k * 2 + 1) .any = .u x.ln ∧ ((tabC R).drop (k * 2)).take 2 = [.b x.is, .u x.ln] := by
  have e1 := fm_cell slC_l h (i := 0) (by decide)
  rw [Nat.add_zero] at e1
  exact ⟨e1, fm_cell slC_l h (i := 1) (by decide), fm_get slC_l h⟩
theorem at8_k {R : List Sl} {k : Nat} {x : Sl} (hk : k < 8) (h : R[k]? = some x) : at8 R k = x := by
  unfold at8; rw [if_pos (in8_k hk), Int.toNat_natCast, List.getD_eq_getElem?_getD, h]; rfl
theorem sl_some {R : List Sl} {k : Nat} (hR : R.length = 8) (hk : k < 8) : ∃ x, R[k]? = some x := ⟨_, List.getElem?_eq_getElem (by omega)⟩

def s_vof (args : List AV) (H : AH) : Option AV :=
  match args with
  | [.c x, .c (.i h)] =>
    match tabP H x with
    | some (some R) => some (.t [.c (.u (at8 R h).ln), .c (.b (at8 R h).is)])
    | some none => some (.t [.c (.u 0#64), .c (.b false)])
    | none => none
  | _ => none
def s_vhas (args : List AV) (H : AH) : Option AV :=
  match args with
  | [.c x, .c (.i h), .c (.u l)] =>
    match tabP H x with
    | some (some R) => some (.c (.b (hasT R h l)))
    | some none => some (.c (.b false))
    | none => none
  | _ => none

theorem setP_bel {H : AH} {x : Sc} {R : List Sl} (hH : belH H = true) : belH (setP H x R) = true := by
  unfold setP; split
  · exact bel_set' hH (tabC_bel _ _)
  · exact hH
theorem wr_tab {R : List Sl} {k : Nat} {y : Sl} (h : k < R.length) : wr (tabC R) (k * 2) [.b y.is, .u y.ln] = tabC (R.set k y) := wr_fm slC_l h
def s_vset (args : List AV) (H : AH) : Option (AV × AH) :=
  match args with
  | [.c x, .c (.i h), .c (.u l)] =>
    match tabP H x with
    | some (some R) => some (.c (.b (in8 h)), setP H x (setT R h ⟨true, l⟩))
    | some none => some (.c (.b false), H)
    | none => none
  | _ => none
theorem len_vset (args : List AV) (H : AH) (v : AV) (H1 : AH) (h : s_vset args H = some (v, H1)) : H.length ≤ H1.length := by
  unfold s_vset at h
  repeat' split at h
  all_goals simp at h
  · rw [← h.2, setP_len]; exact Nat.le_refl _
  · rw [← h.2]; exact Nat.le_refl _
set_option maxRecDepth 100000 in
set_option maxHeartbeats 2000000 in
theorem ok_vset : FpOk Tryz.prog 53 s_vset := by
  refine fp_ok (s := s_vset) (tab := [(57, .pu s_vin)]) hmix (TabOk.cons (e := .pu s_vin) ok_vin TabOk.nil) Tryz.func53 rfl Tryz.results53 Tryz.ntmps53 (by kernel_rfl) (by kernel_rfl) len_vset ?_
  intro args H v H1 h hargs hH
  unfold s_vset at h
  split at h
  · rename_i x h0 l
    split at h
    · rename_i R hR
      simp only [Option.some.injEq, Prod.mk.injEq] at h
      obtain ⟨rfl, rfl⟩ := h
      refine ⟨by simp only [List.length_cons, List.length_nil]; decide, ?_⟩
      rcases tabP_inv hR with ⟨rfl, hq⟩ | ⟨id, R', rfl, hq, hl, ho⟩
      · simp at hq
      · simp only [Option.some.injEq] at hq; subst hq
        have lid : id < H.length := hg_lt (by rw [ho]; rfl)
        have hb := setP_bel (x := .p id 0 0) (R := setT R h0 ⟨true, l⟩) hH
        simp only [setP] at hb ⊢
        cases hi : in8 h0
        · have e : setT R h0 ⟨true, l⟩ = R := by unfold setT; rw [if_neg (by rw [hi]; decide)]
          rw [e, set_self ho lid]
          (try simp (config := { maxSteps := 10000000 }) only [go_sem, seval, s_vin_eq, hi]; repeat (simp (disch := omega) only [w64_d, ipos, ineg, dpos, dneg]; try simp (config := { maxSteps := 10000000 }) only [go_sem, seval, s_vin_eq, hi]))
          exact fin_fp rfl (subH_refl _) hH (Nat.le_refl _)
        · obtain ⟨k, rfl, hk⟩ := in8_nat hi
          have e : setT R k ⟨true, l⟩ = R.set k ⟨true, l⟩ := by unfold setT; rw [if_pos hi]; rfl
          have lt := tabC_l hl
          have w1 := wr_tab (R := R) (k := k) (y := ⟨true, l⟩) (by omega)
          rw [e] at hb ⊢
          (try simp (config := { maxSteps := 10000000 }) only [go_sem, seval, s_vin_eq, hi, ho, lt, w1, Int.toNat_natCast]; repeat (simp (disch := omega) only [w64_d, ipos, ineg, dpos, dneg]; try simp (config := { maxSteps := 10000000 }) only [go_sem, seval, s_vin_eq, hi, ho, lt, w1, Int.toNat_natCast]))
          exact fin_fp rfl (subH_refl _) hb (by simp)
    · simp only [Option.some.injEq, Prod.mk.injEq] at h
      obtain ⟨rfl, rfl⟩ := h
      rename_i hR
      refine ⟨by simp only [List.length_cons, List.length_nil]; decide, ?_⟩
      rcases tabP_inv hR with ⟨rfl, hq⟩ | ⟨id, R', rfl, hq, hl, ho⟩
      · (try simp (config := { maxSteps := 10000000 }) only [go_sem, seval]; repeat (simp (disch := omega) only [w64_d, ipos, ineg, dpos, dneg]; try simp (config := { maxSteps := 10000000 }) only [go_sem, seval]))
        exact fin_fp rfl (subH_refl _) hH (Nat.le_refl _)
      · simp at hq
    · simp at h
  · simp at h
def killB (R : List Sl) (l : BitVec 64) (but : Int) (k : Nat) : Bool := !decide ((k : Int) = but) && hasT R k l
def killN (R : List Sl) (l : BitVec 64) (but : Int) : Nat → List Sl
  | 0 => R
  | k + 1 => if killB R l but k = true then (killN R l but k).set k z0 else killN R l but k
def cntN (R : List Sl) (l : BitVec 64) (but : Int) : Nat → Nat
  | 0 => 0
  | k + 1 => if killB R l but k = true then cntN R l but k + 1 else cntN R l but k
theorem killN_len {R : List Sl} {l : BitVec 64} {but : Int} : ∀ {k : Nat}, (killN R l but k).length = R.length
  | 0 => rfl
  | k + 1 => by
    have ih := killN_len (R := R) (l := l) (but := but) (k := k)
    simp only [killN]; split
    · simp [ih]
    · exact ih
theorem cntN_le {R : List Sl} {l : BitVec 64} {but : Int} : ∀ {k : Nat}, cntN R l but k ≤ k
  | 0 => Nat.le_refl _
  | k + 1 => by
    have ih := cntN_le (R := R) (l := l) (but := but) (k := k)
    simp only [cntN]; split <;> omega
theorem killN_get {R : List Sl} {l : BitVec 64} {but : Int} {j : Nat} : ∀ {k : Nat}, (killN R l but k)[j]? = if j < k ∧ killB R l but j = true ∧ j < R.length then some z0 else R[j]?
  | 0 => by simp [killN]
  | k + 1 => by
    have ih := killN_get (R := R) (l := l) (but := but) (k := k) (j := j)
    have hl := killN_len (R := R) (l := l) (but := but) (k := k)
    simp only [killN]
    split
    · rename_i hb
      rw [List.getElem?_set]
      by_cases e : k = j
      · subst e
        rw [if_pos rfl, hl]
        by_cases h2 : k < R.length
        · rw [if_pos h2, if_pos ⟨by omega, hb, h2⟩]
        · rw [if_neg h2, if_neg (fun h => h2 h.2.2), List.getElem?_eq_none (by omega)]
      · rw [if_neg e, ih]
        by_cases h2 : j < k ∧ killB R l but j = true ∧ j < R.length
        · rw [if_pos h2, if_pos ⟨by omega, h2.2⟩]
        · rw [if_neg h2, if_neg (fun h => h2 ⟨by omega, h.2⟩)]
    · rename_i hb
      rw [ih]
      by_cases h2 : j < k ∧ killB R l but j = true ∧ j < R.length
      · rw [if_pos h2, if_pos ⟨by omega, h2.2⟩]
      · rw [if_neg h2, if_neg (fun h => h2 ⟨?_, h.2⟩)]
        rcases Nat.lt_or_eq_of_le (Nat.lt_succ_iff.1 h.1) with h3 | h3
        · exact h3
        · subst h3; exact (hb h.2.1).elim
theorem has_killN {R : List Sl} {l : BitVec 64} {but : Int} {k : Nat} (hk : k < 8) (hl : R.length = 8) : hasT (killN R l but k) k l = hasT R k l := by
  obtain ⟨y, hy⟩ := sl_some hl hk
  have e : (killN R l but k)[k]? = some y := by rw [killN_get, if_neg (by omega)]; exact hy
  unfold hasT; rw [at8_k hk e, at8_k hk hy]
def s_vkill (args : List AV) (H : AH) : Option (AV × AH) :=
  match args with
  | [.c x, .c (.u l), .c (.i but)] =>
    match tabP H x with
    | some (some R) => some (.c (.i (cntN R l but 8)), setP H x (killN R l but 8))
    | some none => some (.c (.i 0), H)
    | none => none
  | _ => none

def tabQ (H : AH) : Sc → Option (List Sl)
  | .p id off 0 => match hg H id with
    | .own cs => if off + 16 ≤ cs.length then decN 2 dcS 8 ((cs.drop off).take 16) else none
    | _ => none
  | _ => none
def setQ (H : AH) (x : Sc) (R : List Sl) : AH :=
  match x with
  | .p id off _ => H.set id (.own ((hg H id).cells.take off ++ (tabC R ++ (hg H id).cells.drop (off + 16))))
  | _ => H
theorem setQ_len {H : AH} {x : Sc} {R : List Sl} : (setQ H x R).length = H.length := by unfold setQ; split <;> simp
theorem tabQ_inv {H : AH} {x : Sc} {R : List Sl} (h : tabQ H x = some R) : ∃ id A B, x = .p id A.length 0 ∧ hg H id = .own (A ++ (tabC R ++ B)) ∧ R.length = 8 := by
  unfold tabQ at h
  split at h
  · rename_i id off
    split at h
    · rename_i cs hcs
      split at h
      · rename_i hl
        obtain ⟨h1, h2⟩ := decN_dec (w := 2) (f := slC) dcS_d 8 _ R (by rw [List.length_take, List.length_drop]; omega) h
        have l1 : (cs.take off).length = off := by rw [List.length_take]; omega
        refine ⟨id, cs.take off, cs.drop (off + 16), by rw [l1], ?_, h1⟩
        rw [hcs, show tabC R = R.flatMap slC from rfl, ← h2, ← List.drop_drop, List.take_append_drop, List.take_append_drop]
      · simp at h
    · simp at h
  · simp at h
theorem tabQ_of {H : AH} {id : Nat} {A B : List Sc} {R : List Sl} (ho : hg H id = .own (A ++ (tabC R ++ B))) (hR : R.length = 8) : tabQ H (.p id A.length 0) = some R := by
  have l1 : A.length + 16 ≤ (A ++ (tabC R ++ B)).length := by simp only [List.length_append, tabC_l hR]; omega
  have e1 : ((A ++ (tabC R ++ B)).drop A.length).take 16 = tabC R := by
    have := drop_mid (A := A) (M := tabC R) (B := B) (i := 0) (n := 16) (by rw [tabC_l hR]; omega)
    rw [Nat.add_zero, List.drop_zero] at this
    rw [this, ← tabC_l hR, List.take_length]
  simp only [tabQ, ho, l1, if_true, e1]
  have := decN_enc slC_l dcS_e R
  rw [hR] at this
  exact this
theorem setQ_of {H : AH} {id : Nat} {A B : List Sc} {R S : List Sl} (ho : hg H id = .own (A ++ (tabC R ++ B))) (hR : R.length = 8) : setQ H (.p id A.length 0) S = H.set id (.own (A ++ (tabC S ++ B))) := by
  simp only [setQ, ho, AObj.cells]
  rw [List.take_left, ← List.append_assoc A (tabC R) B, List.drop_left' (by rw [List.length_append, tabC_l hR])]
def s_tbof (args : List AV) (H : AH) : Option AV :=
  match args with
  | [.c x, .c (.i h)] => (tabQ H x).map fun R => .t [.c (.u (at8 R h).ln), .c (.b (at8 R h).is)]
  | _ => none
theorem s_tbof_eq {H : AH} {x : Sc} {h : Int} {R : List Sl} (hR : tabQ H x = some R) : s_tbof [.c x, .c (.i h)] H = some (.t [.c (.u (at8 R h).ln), .c (.b (at8 R h).is)]) := by simp only [s_tbof, hR, Option.map_some]
set_option maxRecDepth 100000 in
set_option maxHeartbeats 2000000 in
theorem ok_tbof : FpOk Tryz.prog 26 (fun args H => (s_tbof args H).map fun v => (v, H)) := by
  refine fq_ok (s := s_tbof) (tab := [(57, .pu s_vin)]) hmix (TabOk.cons (e := .pu s_vin) ok_vin TabOk.nil) Tryz.func26 rfl Tryz.results26 Tryz.ntmps26 (by kernel_rfl) (by kernel_rfl) ?_
  intro args H v h hargs hH
  unfold s_tbof at h
  split at h
  · rename_i x h0
    rw [Option.map_eq_some_iff] at h
    obtain ⟨R, hR, rfl⟩ := h
    refine ⟨by simp only [List.length_cons, List.length_nil]; decide, rfl, ?_⟩
    obtain ⟨id, A, B, rfl, ho, hl⟩ := tabQ_inv hR
    cases hi : in8 h0
    · have e : at8 R h0 = z0 := by unfold at8; rw [if_neg (by rw [hi]; decide)]
      (try simp (config := { maxSteps := 10000000 }) only [go_sem, seval, s_vin_eq, hi, e, z0]; repeat (simp (disch := omega) only [w64_d, ipos, ineg, dpos, dneg]; try simp (config := { maxSteps := 10000000 }) only [go_sem, seval, s_vin_eq, hi, e, z0]))
      exact subH_refl _
    · obtain ⟨k, rfl, hk⟩ := in8_nat hi
      obtain ⟨y, hy⟩ := sl_some hl hk
      obtain ⟨c0, c1, c2⟩ := sl_cell hy
      have e := at8_k hk hy
      have lt := tabC_l hl
      have d0 : (A ++ (tabC R ++ B)).getD (A.length + k * 2) .any = .b y.is := by rw [getD_mid (by omega), c0]
      have d1 : (A ++ (tabC R ++ B)).getD (A.length + k * 2 + 1) .any = .u y.ln := by rw [Nat.add_assoc, getD_mid (by omega), c1]
      have q : A.length + 16 ≤ (A ++ (tabC R ++ B)).length := by simp only [List.length_append, lt]; omega
      generalize A ++ (tabC R ++ B) = cs at *
      generalize A.length = off at *
      (try simp (config := { maxSteps := 10000000 }) only [go_sem, seval, s_vin_eq, hi, ho, e, d0, d1, Int.toNat_natCast]; repeat (simp (disch := omega) only [w64_d, ipos, ineg, dpos, dneg]; try simp (config := { maxSteps := 10000000 }) only [go_sem, seval, s_vin_eq, hi, ho, e, d0, d1, Int.toNat_natCast]))
      exact subH_refl _
  · simp at h
def s_tbhas (args : List AV) (H : AH) : Option AV :=
  match args with
  | [.c x, .c (.i h), .c (.u l)] => (tabQ H x).map fun R => .c (.b (hasT R h l))
  | _ => none
theorem s_tbhas_eq {H : AH} {x : Sc} {h : Int} {l : BitVec 64} {R : List Sl} (hR : tabQ H x = some R) : s_tbhas [.c x, .c (.i h), .c (.u l)] H = some (.c (.b (hasT R h l))) := by simp only [s_tbhas, hR, Option.map_some]
set_option maxRecDepth 100000 in
set_option maxHeartbeats 2000000 in
theorem ok_tbhas : FpOk Tryz.prog 55 (fun args H => (s_tbhas args H).map fun v => (v, H)) := by
  refine fq_ok (s := s_tbhas) (tab := [(57, .pu s_vin)]) hmix (TabOk.cons (e := .pu s_vin) ok_vin TabOk.nil) Tryz.func55 rfl Tryz.results55 Tryz.ntmps55 (by kernel_rfl) (by kernel_rfl) ?_
  intro args H v h hargs hH
  unfold s_tbhas at h
  split at h
  · rename_i x h0 l
    rw [Option.map_eq_some_iff] at h
    obtain ⟨R, hR, rfl⟩ := h
    refine ⟨by simp only [List.length_cons, List.length_nil]; decide, rfl, ?_⟩
    obtain ⟨id, A, B, rfl, ho, hl⟩ := tabQ_inv hR
    cases hi : in8 h0
    · (try simp (config := { maxSteps := 10000000 }) only [go_sem, seval, s_vin_eq, hi, hasT]; repeat (simp (disch := omega) only [w64_d, ipos, ineg, dpos, dneg]; try simp (config := { maxSteps := 10000000 }) only [go_sem, seval, s_vin_eq, hi, hasT]))
      exact subH_refl _
    · obtain ⟨k, rfl, hk⟩ := in8_nat hi
      obtain ⟨y, hy⟩ := sl_some hl hk
      obtain ⟨c0, c1, c2⟩ := sl_cell hy
      have e := at8_k hk hy
      have lt := tabC_l hl
      have eq : (y.is == true) = y.is := by cases y.is <;> rfl
      have d2 : ((A ++ (tabC R ++ B)).drop (A.length + k * 2)).take 2 = [.b y.is, .u y.ln] := by rw [drop_mid (by omega), c2]
      have q : A.length + k * 2 + 2 ≤ (A ++ (tabC R ++ B)).length := by simp only [List.length_append, lt]; omega
      generalize A ++ (tabC R ++ B) = cs at *
      generalize A.length = off at *
      (try simp (config := { maxSteps := 10000000 }) only [go_sem, seval, s_vin_eq, hi, ho, e, d2, q, hasT, eq, Int.toNat_natCast]; repeat (simp (disch := omega) only [w64_d, ipos, ineg, dpos, dneg]; try simp (config := { maxSteps := 10000000 }) only [go_sem, seval, s_vin_eq, hi, ho, e, d2, q, hasT, eq, Int.toNat_natCast]))
      exact subH_refl _
  · simp at h
theorem setQ_bel {H : AH} {id : Nat} {A B : List Sc} {R S : List Sl} (ho : hg H id = .own (A ++ (tabC R ++ B))) (hR : R.length = 8) (hH : belH H = true) : belH (setQ H (.p id A.length 0) S) = true := by
  rw [setQ_of ho hR]
  refine bel_set' hH ?_
  have lid : id < H.length := hg_lt (by rw [ho]; rfl)
  have := bel_at hH id
  rw [ho] at this
  simp only [AObj.cells, AObj.scs, List.all_append, Bool.and_eq_true] at this ⊢
  exact ⟨this.1, tabC_bel _ _, this.2.2⟩
def s_tbset (args : List AV) (H : AH) : Option (AV × AH) :=
  match args with
  | [.c x, .c (.i h), .c (.u l)] => (tabQ H x).map fun R => (.c (.b (in8 h)), setQ H x (setT R h ⟨true, l⟩))
  | _ => none
theorem s_tbset_eq {H : AH} {x : Sc} {h : Int} {l : BitVec 64} {R : List Sl} (hR : tabQ H x = some R) : s_tbset [.c x, .c (.i h), .c (.u l)] H = some (.c (.b (in8 h)), setQ H x (setT R h ⟨true, l⟩)) := by simp only [s_tbset, hR, Option.map_some]
theorem len_tbset (args : List AV) (H : AH) (v : AV) (H1 : AH) (h : s_tbset args H = some (v, H1)) : H.length ≤ H1.length := by
  unfold s_tbset at h
  split at h
  · rw [Option.map_eq_some_iff] at h
    obtain ⟨R, _, h⟩ := h
    simp only [Prod.mk.injEq] at h
    rw [← h.2, setQ_len]; exact Nat.le_refl _
  · simp at h
set_option maxRecDepth 100000 in
set_option maxHeartbeats 2000000 in
theorem ok_tbset : FpOk Tryz.prog 53 s_tbset := by
  refine fp_ok (s := s_tbset) (tab := [(57, .pu s_vin)]) hmix (TabOk.cons (e := .pu s_vin) ok_vin TabOk.nil) Tryz.func53 rfl Tryz.results53 Tryz.ntmps53 (by kernel_rfl) (by kernel_rfl) len_tbset ?_
  intro args H v H1 h hargs hH
  unfold s_tbset at h
  split at h
  · rename_i x h0 l
    rw [Option.map_eq_some_iff] at h
    obtain ⟨R, hR, h⟩ := h
    simp only [Prod.mk.injEq] at h
    obtain ⟨rfl, rfl⟩ := h
    refine ⟨by simp only [List.length_cons, List.length_nil]; decide, ?_⟩
    obtain ⟨id, A, B, rfl, ho, hl⟩ := tabQ_inv hR
    have lid : id < H.length := hg_lt (by rw [ho]; rfl)
    have hb := fun S => setQ_bel (S := S) ho hl hH
    simp only [setQ_of ho hl] at hb ⊢
    cases hi : in8 h0
    · have e : setT R h0 ⟨true, l⟩ = R := by unfold setT; rw [if_neg (by rw [hi]; decide)]
      rw [e, set_self ho lid]
      (try simp (config := { maxSteps := 10000000 }) only [go_sem, seval, s_vin_eq, hi]; repeat (simp (disch := omega) only [w64_d, ipos, ineg, dpos, dneg]; try simp (config := { maxSteps := 10000000 }) only [go_sem, seval, s_vin_eq, hi]))
      exact fin_fp rfl (subH_refl _) hH (Nat.le_refl _)
    · obtain ⟨k, rfl, hk⟩ := in8_nat hi
      have e : setT R k ⟨true, l⟩ = R.set k ⟨true, l⟩ := by unfold setT; rw [if_pos hi]; rfl
      have lt := tabC_l hl
      have w1 : wr (A ++ (tabC R ++ B)) (A.length + k * 2) [.b true, .u l] = A ++ (tabC (R.set k ⟨true, l⟩) ++ B) := by
        rw [wr_mid (by simp; omega), wr_tab (R := R) (k := k) (y := ⟨true, l⟩) (by omega)]
      have q : A.length + k * 2 + 2 ≤ (A ++ (tabC R ++ B)).length := by simp only [List.length_append, lt]; omega
      have hb := hb (R.set k ⟨true, l⟩)
      rw [e]
      generalize A ++ (tabC (R.set k ⟨true, l⟩) ++ B) = cs2 at *
      generalize A ++ (tabC R ++ B) = cs at *
      generalize A.length = off at *
      (try simp (config := { maxSteps := 10000000 }) only [go_sem, seval, s_vin_eq, hi, ho, q, w1, Int.toNat_natCast]; repeat (simp (disch := omega) only [w64_d, ipos, ineg, dpos, dneg]; try simp (config := { maxSteps := 10000000 }) only [go_sem, seval, s_vin_eq, hi, ho, q, w1, Int.toNat_natCast]))
      exact fin_fp rfl (subH_refl _) hb (by simp)
  · simp at h

def s_tbclear (args : List AV) (H : AH) : Option (AV × AH) :=
  match args with
  | [.c x, .c (.i h)] => (tabQ H x).map fun R => (.c (.b (at8 R h).is), setQ H x (setT R h z0))
  | _ => none
theorem s_tbclear_eq {H : AH} {x : Sc} {h : Int} {R : List Sl} (hR : tabQ H x = some R) : s_tbclear [.c x, .c (.i h)] H = some (.c (.b (at8 R h).is), setQ H x (setT R h z0)) := by simp only [s_tbclear, hR, Option.map_some]
theorem len_tbclear (args : List AV) (H : AH) (v : AV) (H1 : AH) (h : s_tbclear args H = some (v, H1)) : H.length ≤ H1.length := by
  unfold s_tbclear at h
  split at h
  · rw [Option.map_eq_some_iff] at h
    obtain ⟨R, _, h⟩ := h
    simp only [Prod.mk.injEq] at h
    rw [← h.2, setQ_len]; exact Nat.le_refl _
  · simp at h
set_option maxRecDepth 100000 in
set_option maxHeartbeats 2000000 in
theorem ok_tbclear : FpOk Tryz.prog 56 s_tbclear := by
  refine fp_ok (s := s_tbclear) (tab := [(57, .pu s_vin)]) hmix (TabOk.cons (e := .pu s_vin) ok_vin TabOk.nil) Tryz.func56 rfl Tryz.results56 Tryz.ntmps56 (by kernel_rfl) (by kernel_rfl) len_tbclear ?_
  intro args H v H1 h hargs hH
  unfold s_tbclear at h
  split at h
  · rename_i x h0
    rw [Option.map_eq_some_iff] at h
    obtain ⟨R, hR, h⟩ := h
    simp only [Prod.mk.injEq] at h
    obtain ⟨rfl, rfl⟩ := h
    refine ⟨by simp only [List.length_cons, List.length_nil]; decide, ?_⟩
    obtain ⟨id, A, B, rfl, ho, hl⟩ := tabQ_inv hR
    have lid : id < H.length := hg_lt (by rw [ho]; rfl)
    have hb := fun S => setQ_bel (S := S) ho hl hH
    simp only [setQ_of ho hl] at hb ⊢
    cases hi : in8 h0
    · have e : setT R h0 z0 = R := by unfold setT; rw [if_neg (by rw [hi]; decide)]
      have e2 : at8 R h0 = z0 := by unfold at8; rw [if_neg (by rw [hi]; decide)]
      rw [e, set_self ho lid, e2]
      (try simp (config := { maxSteps := 10000000 }) only [go_sem, seval, s_vin_eq, hi, z0]; repeat (simp (disch := omega) only [w64_d, ipos, ineg, dpos, dneg]; try simp (config := { maxSteps := 10000000 }) only [go_sem, seval, s_vin_eq, hi, z0]))
      exact fin_fp rfl (subH_refl _) hH (Nat.le_refl _)
    · obtain ⟨k, rfl, hk⟩ := in8_nat hi
      obtain ⟨y, hy⟩ := sl_some hl hk
      obtain ⟨c0, c1, c2⟩ := sl_cell hy
      have e0 := at8_k hk hy
      have e : setT R k z0 = R.set k z0 := by unfold setT; rw [if_pos hi]; rfl
      have lt := tabC_l hl
      have d0 : (A ++ (tabC R ++ B)).getD (A.length + k * 2) .any = .b y.is := by rw [getD_mid (by omega), c0]
      have w1 : wr (A ++ (tabC R ++ B)) (A.length + k * 2) [.b false, .u 0#64] = A ++ (tabC (R.set k z0) ++ B) := by
        rw [wr_mid (by simp; omega)]
        have := wr_tab (R := R) (k := k) (y := z0) (by omega)
        simp only [z0] at this ⊢
        rw [this]
      have q : A.length + k * 2 + 2 ≤ (A ++ (tabC R ++ B)).length := by simp only [List.length_append, lt]; omega
      have hb := hb (R.set k z0)
      rw [e, e0]
      generalize A ++ (tabC (R.set k z0) ++ B) = cs2 at *
      generalize A ++ (tabC R ++ B) = cs at *
      generalize A.length = off at *
      (try simp (config := { maxSteps := 10000000 }) only [go_sem, seval, s_vin_eq, hi, ho, q, d0, w1, Int.toNat_natCast]; repeat (simp (disch := omega) only [w64_d, ipos, ineg, dpos, dneg]; try simp (config := { maxSteps := 10000000 }) only [go_sem, seval, s_vin_eq, hi, ho, q, d0, w1, Int.toNat_natCast]))
      exact fin_fp rfl (subH_refl _) hb (by simp)
  · simp at h
def s_tbkill (args : List AV) (H : AH) : Option (AV × AH) :=
  match args with
  | [.c x, .c (.u l), .c (.i but)] => (tabQ H x).map fun R => (.c (.i (cntN R l but 8)), setQ H x (killN R l but 8))
  | _ => none
theorem s_tbkill_eq {H : AH} {x : Sc} {l : BitVec 64} {but : Int} {R : List Sl} (hR : tabQ H x = some R) : s_tbkill [.c x, .c (.u l), .c (.i but)] H = some (.c (.i (cntN R l but 8)), setQ H x (killN R l but 8)) := by simp only [s_tbkill, hR, Option.map_some]
theorem len_tbkill (args : List AV) (H : AH) (v : AV) (H1 : AH) (h : s_tbkill args H = some (v, H1)) : H.length ≤ H1.length := by
  unfold s_tbkill at h
  split at h
  · rw [Option.map_eq_some_iff] at h
    obtain ⟨R, _, h⟩ := h
    simp only [Prod.mk.injEq] at h
    rw [← h.2, setQ_len]; exact Nat.le_refl _
  · simp at h
set_option maxRecDepth 100000 in
set_option maxHeartbeats 2000000 in
theorem ok_tbkill : FpOk Tryz.prog 92 s_tbkill := by
  refine fp_ok (s := s_tbkill) (tab := [(55, .fq s_tbhas), (56, .fp s_tbclear)]) hmix (TabOk.cons (e := .fq s_tbhas) ok_tbhas (TabOk.cons (e := .fp s_tbclear) ok_tbclear TabOk.nil)) Tryz.func92 rfl Tryz.results92 Tryz.ntmps92 (by kernel_rfl) (by kernel_rfl) len_tbkill ?_
  intro args H v H1 h hargs hH
  unfold s_tbkill at h
  split at h
  · rename_i x l but
    rw [Option.map_eq_some_iff] at h
    obtain ⟨R, hR, h⟩ := h
    simp only [Prod.mk.injEq] at h
    obtain ⟨rfl, rfl⟩ := h
    refine ⟨by simp only [List.length_cons, List.length_nil]; decide, ?_⟩
    obtain ⟨id, A, B, rfl, ho, hl⟩ := tabQ_inv hR
    have lid : id < H.length := hg_lt (by rw [ho]; rfl)
    have hb := fun S => setQ_bel (S := S) ho hl hH
    have bA : A.length = A.length := rfl
    let O : List Sl → AH := fun L => H.set id (.own (A ++ (tabC L ++ B)))
    have gO : ∀ L, hg (O L) id = .own (A ++ (tabC L ++ B)) := fun L => hg_set_same lid
    have tO : ∀ L, L.length = 8 → tabQ (O L) (.p id A.length 0) = some L := fun L h => tabQ_of (gO L) h
    have pO : ∀ L M, L.length = 8 → setQ (O L) (.p id A.length 0) M = O M := fun L M h => by rw [setQ_of (gO L) h]; exact List.set_set ..
    have lO : ∀ L, (O L).length = H.length := fun L => List.length_set
    have bO : ∀ L, belH (O L) = true := fun L => by have := hb L; rw [setQ_of ho hl] at this; exact this
    have h1 : O R = H := set_self ho lid
    have fin : setQ H (.p id A.length 0) (killN R l but 8) = O (killN R l but 8) := setQ_of ho hl
    rw [fin]
    clear_value O
    clear hb
    generalize A.length = off at *
    (try simp (config := { maxSteps := 10000000 }) only [go_sem, seval]; repeat (simp (disch := omega) only [w64_d, ipos, ineg, dpos, dneg]; try simp (config := { maxSteps := 10000000 }) only [go_sem, seval]))
    refine arun_for 8 (fun k => ([(0, .c (.p id off 0)), (1, .c (.u l)), (2, .c (.i but)), (7, .c (.i (cntN R l but k))), (9, .c (.i k))], O (killN R l but k))) ?_ fun k hk => ?_
    · rw [show killN R l but 0 = R from rfl, h1]
      exact Wk.wk (Nat.le_refl _) (by simp [Am.get, cntN]) (by simp [AV.bel, Sc.bel, lid]) (subH_refl _) hH
    · have kl := killN_len (R := R) (l := l) (but := but) (k := k)
      have cl := cntN_le (R := R) (l := l) (but := but) (k := k)
      by_cases hlt : k < 8
      · have e0 : (k : Int) < 8 := by omega
        have e1 : w64 ((k : Int) + 1) = ((k + 1 : Nat) : Int) := by rw [w64_d (by omega) (by omega)]; omega
        have e2 : w64 ((cntN R l but k : Int) + 1) = ((cntN R l but k + 1 : Nat) : Int) := by rw [w64_d (by omega) (by omega)]; omega
        have p1 := s_tbhas_eq (h := k) (l := l) (tO (killN R l but k) (by omega))
        have p2 := s_tbclear_eq (h := k) (tO (killN R l but k) (by omega))
        rw [has_killN hlt hl] at p1
        rw [pO _ _ (by omega)] at p2
        have e3 : setT (killN R l but k) k z0 = (killN R l but k).set k z0 := by unfold setT; rw [if_pos (in8_k hlt)]; rfl
        rw [e3] at p2
        have kS : killN R l but (k + 1) = if killB R l but k = true then (killN R l but k).set k z0 else killN R l but k := rfl
        have cS : cntN R l but (k + 1) = if killB R l but k = true then cntN R l but k + 1 else cntN R l but k := rfl
        by_cases hb : (k : Int) = but
        · have hb' := eq_true hb
          have kB : killB R l but k = false := by simp [killB, hb]
          rw [kB, if_neg (by decide)] at kS cS
          (try simp (config := { maxSteps := 10000000 }) only [go_sem, seval, hb', e0, e1, p1]; repeat (simp (disch := omega) only [w64_d, ipos, ineg, dpos, dneg]; try simp (config := { maxSteps := 10000000 }) only [go_sem, seval, hb', e0, e1, p1]))
          refine ⟨k + 1, by omega, by omega, ?_⟩
          rw [kS, cS]
          exact Wk.wk (by simp [lo, lO]) (by simp [Am.get]) (by simp [AV.bel, Sc.bel, lid, lO]) (subH_refl _) (bO _)
        · cases hh : hasT R k l
          · have kB : killB R l but k = false := by simp [killB, hh]
            rw [kB, if_neg (by decide)] at kS cS
            rw [hh] at p1
            (try simp (config := { maxSteps := 10000000 }) only [go_sem, seval, hb, e0, e1, p1]; repeat (simp (disch := omega) only [w64_d, ipos, ineg, dpos, dneg]; try simp (config := { maxSteps := 10000000 }) only [go_sem, seval, hb, e0, e1, p1]))
            refine ⟨k + 1, by omega, by omega, ?_⟩
            rw [kS, cS]
            exact Wk.wk (by simp [lo, lO]) (by simp [Am.get]) (by simp [AV.bel, Sc.bel, lid, lO]) (subH_refl _) (bO _)
          · have kB : killB R l but k = true := by simp [killB, hh, hb]
            rw [kB, if_pos rfl] at kS cS
            rw [hh] at p1
            (try simp (config := { maxSteps := 10000000 }) only [go_sem, seval, hb, e0, e1, e2, p1, p2]; repeat (simp (disch := omega) only [w64_d, ipos, ineg, dpos, dneg]; try simp (config := { maxSteps := 10000000 }) only [go_sem, seval, hb, e0, e1, e2, p1, p2]))
            refine ⟨k + 1, by omega, by omega, ?_⟩
            rw [kS, cS]
            exact Wk.wk (by simp [lo, lO]) (by simp [Am.get]) (by simp [AV.bel, Sc.bel, lid, lO]) (subH_refl _) (bO _)
      · obtain rfl : k = 8 := by omega
        (try simp (config := { maxSteps := 10000000 }) only [go_sem, seval]; repeat (simp (disch := omega) only [w64_d, ipos, ineg, dpos, dneg]; try simp (config := { maxSteps := 10000000 }) only [go_sem, seval]))
        exact fin_fp rfl (subH_refl _) (bO _) (by rw [lO]; exact Nat.le_refl _)
  · simp at h
end
end Go.Proofs.YtcbhelkafelofaaGreat
namespace Go.Proofs.YtcbhelkafelofaaGreat
open Go.Am
set_option linter.unusedSimpArgs false
set_option linter.unusedVariables false
noncomputable section

def gi (l : List Sc) (i : Nat) : Int := match l.getD i .any with
  | .i x => x
  | _ => 0
def gu (l : List Sc) (i : Nat) : BitVec 64 := match l.getD i .any with
  | .u x => x
  | _ => 0#64
def gb (l : List Sc) (i : Nat) : Bool := match l.getD i .any with
  | .b x => x
  | _ => false
theorem fit_all {l : List Sc} {ks : List K} (h : L2 FitK l ks) : l.all Sc.one = true ∧ l.all Sc.pf = true ∧ ∀ n, l.all (Sc.bel n) = true := by
  induction h with
  | nil => exact ⟨rfl, rfl, fun _ => rfl⟩
  | @cons s k l m h1 h2 ih =>
    obtain ⟨a, b, c⟩ := ih
    have : s.one = true ∧ s.pf = true ∧ ∀ n, s.bel n = true := by
      cases s <;> first | exact ⟨rfl, rfl, fun _ => rfl⟩ | (cases k <;> simp [FitK] at h1)
    exact ⟨by rw [List.all_cons, this.1, a]; rfl, by rw [List.all_cons, this.2.1, b]; rfl, fun n => by rw [List.all_cons, this.2.2 n, c n]; rfl⟩
def ksAsk : List K := [.n .i64, .n .u64, .n .u64, .n .i64, .n .i64, .n .i64, .n .u64, .n .u64, .q, .n .i64, .q, .q, .q, .n .u64, .n .i64, .n .i64, .n .u64, .n .i64, .n .u64]

def knownB (k : Int) : Bool := decide (1 ≤ k) && decide (k ≤ 20)
def s_eknown (args : List AV) : Option AV :=
  match args with
  | [.c (.i k)] => some (.c (.b (knownB k)))
  | _ => none
theorem s_eknown_eq {k} : s_eknown [.c (.i k)] = some (.c (.b (knownB k))) := rfl
set_option maxRecDepth 100000 in
set_option maxHeartbeats 2000000 in
theorem ok_eknown : PuOk Tryz.prog 62 s_eknown := by
  refine pu_ok (tab := []) hmix TabOk.nil Tryz.func62 rfl Tryz.results62 Tryz.ntmps62 (by kernel_rfl) (by kernel_rfl) ?_
  intro args v h
  unfold s_eknown at h
  split at h
  · rename_i k
    simp only [Option.some.injEq] at h; subst h
    refine ⟨by simp only [List.length_cons, List.length_nil]; decide, rfl, rfl, ?_⟩
    by_cases h1 : 1 ≤ k
    all_goals (try simp (config := { maxSteps := 10000000 }) only [go_sem, seval, knownB, h1]; repeat (simp (disch := omega) only [w64_d, ipos, ineg, dpos, dneg]; try simp (config := { maxSteps := 10000000 }) only [go_sem, seval, knownB, h1]))
  · simp at h
def groupI (k : Int) : Int := if k < 1 then 0 else if k ≤ 8 then 1 else if k ≤ 11 then 2 else if k ≤ 14 then 3 else if k ≤ 17 then 4 else if k ≤ 20 then 5 else 0
def s_egroup (args : List AV) : Option AV :=
  match args with
  | [.c (.i k)] => some (.c (.i (groupI k)))
  | _ => none
theorem s_egroup_eq {k} : s_egroup [.c (.i k)] = some (.c (.i (groupI k))) := rfl
set_option maxRecDepth 100000 in
set_option maxHeartbeats 2000000 in
theorem ok_egroup : PuOk Tryz.prog 32 s_egroup := by
  refine pu_ok (tab := [(62, .pu s_eknown)]) hmix (TabOk.cons (e := .pu s_eknown) ok_eknown TabOk.nil) Tryz.func32 rfl Tryz.results32 Tryz.ntmps32 (by kernel_rfl) (by kernel_rfl) ?_
  intro args v h
  unfold s_egroup at h
  split at h
  · rename_i k
    simp only [Option.some.injEq] at h; subst h
    refine ⟨by simp only [List.length_cons, List.length_nil]; decide, rfl, rfl, ?_⟩
    by_cases h1 : 1 ≤ k
    all_goals by_cases h2 : k ≤ 20
    all_goals (try simp (config := { maxSteps := 10000000 }) only [go_sem, seval, s_eknown_eq, knownB, h1, h2]; repeat (simp (disch := omega) only [w64_d, ipos, ineg, dpos, dneg]; try simp (config := { maxSteps := 10000000 }) only [go_sem, seval, s_eknown_eq, knownB, h1, h2]))
    repeat' (first
      | (refine cnd_by (fun h => ?_) (fun h => ?_) <;> (try simp only [decide_eq_true_eq, decide_eq_false_iff_not, Bool.not_eq_true', Bool.not_eq_false', Bool.not_eq_true, Bool.not_eq_false, Bool.and_eq_true, beq_iff_eq, beq_eq_false_iff_ne, ne_eq, Bool.or_eq_true] at h) <;> ((try simp (config := { maxSteps := 10000000 }) only [go_sem, seval, h]; repeat (simp (disch := omega) only [w64_d, ipos, ineg, dpos, dneg]; try simp (config := { maxSteps := 10000000 }) only [go_sem, seval, h]))))
      | (refine grd_by (fun h => ?_) (fun h => ?_) <;> (try simp only [decide_eq_true_eq, decide_eq_false_iff_not, Bool.not_eq_true', Bool.not_eq_false', Bool.not_eq_true, Bool.not_eq_false, Bool.and_eq_true, beq_iff_eq, beq_eq_false_iff_ne, ne_eq, Bool.or_eq_true] at h) <;> ((try simp (config := { maxSteps := 10000000 }) only [go_sem, seval, h]; repeat (simp (disch := omega) only [w64_d, ipos, ineg, dpos, dneg]; try simp (config := { maxSteps := 10000000 }) only [go_sem, seval, h]))))
      | (refine grdd_by (fun h => ?_) (fun h => ?_) <;> (try simp only [decide_eq_true_eq, decide_eq_false_iff_not, Bool.not_eq_true', Bool.not_eq_false', Bool.not_eq_true, Bool.not_eq_false, Bool.and_eq_true, beq_iff_eq, beq_eq_false_iff_ne, ne_eq, Bool.or_eq_true] at h) <;> ((try simp (config := { maxSteps := 10000000 }) only [go_sem, seval, h]; repeat (simp (disch := omega) only [w64_d, ipos, ineg, dpos, dneg]; try simp (config := { maxSteps := 10000000 }) only [go_sem, seval, h])))))
    all_goals (unfold groupI; repeat' split)
    all_goals first | rfl | (exfalso; omega)
  · simp at h

end
end Go.Proofs.YtcbhelkafelofaaGreat
namespace Go.Proofs.YtcbhelkafelofaaGreat
open Go.Am
set_option linter.unusedSimpArgs false
set_option linter.unusedVariables false
noncomputable section

def s_saccess (args : List AV) : Option AV :=
  match args with
  | [.g (.i k :: .u a :: .u b :: .i c :: .i s :: r)] => if r.length = 14 ∧ r.all Sc.pf = true then some (.g [.u a, .u b, .i c, .i s]) else none
  | _ => none
theorem s_saccess_eq {k a b c s r} : s_saccess [.g (.i k :: .u a :: .u b :: .i c :: .i s :: r)] = if r.length = 14 ∧ r.all Sc.pf = true then some (.g [.u a, .u b, .i c, .i s]) else none := rfl
set_option maxRecDepth 100000 in
set_option maxHeartbeats 2000000 in
theorem ok_saccess : PuOk Tryz.prog 88 s_saccess := by
  refine pu_ok (tab := []) hmix TabOk.nil Tryz.func88 rfl Tryz.results88 Tryz.ntmps88 (by kernel_rfl) (by kernel_rfl) ?_
  intro args v h
  unfold s_saccess at h
  split at h
  · rename_i k a b c s r
    split at h
    · rename_i hc
      simp only [Option.some.injEq] at h; subst h
      have pr := hc.2
      refine ⟨by simp only [List.length_cons, List.length_nil]; decide, by first | rfl | simp only [List.all_cons, List.all_nil, AV.pf, Sc.pf, Bool.and_true, *], by first | rfl | simp only [List.all_cons, List.all_nil, AV.pf, Sc.pf, Bool.and_true, *], ?_⟩
      (try simp (config := { maxSteps := 10000000 }) only [go_sem, seval, hc.1]; repeat (simp (disch := omega) only [w64_d, ipos, ineg, dpos, dneg]; try simp (config := { maxSteps := 10000000 }) only [go_sem, seval, hc.1]))
    · simp at h
  · simp at h

theorem ask9 {l : List Sc} (h : L2 FitK l ksAsk) : ∃ (k : Int) (a b : BitVec 64) (c s op : Int) (d o : BitVec 64) (lv : Bool) (r : List Sc), l = .i k :: .u a :: .u b :: .i c :: .i s :: .i op :: .u d :: .u o :: .b lv :: r ∧
    (r.length = 10 ∧ r.all Sc.pf = true ∧ r.all Sc.one = true) ∧ (-9223372036854775808 ≤ k ∧ k ≤ 9223372036854775807) ∧ (-9223372036854775808 ≤ c ∧ c ≤ 9223372036854775807) ∧ (-9223372036854775808 ≤ s ∧ s ≤ 9223372036854775807) ∧ (-9223372036854775808 ≤ op ∧ op ≤ 9223372036854775807) := by
  obtain ⟨x1, r1, rfl, k1, h⟩ := fit_cons h
  obtain ⟨x2, r2, rfl, k2, h⟩ := fit_cons h
  obtain ⟨x3, r3, rfl, k3, h⟩ := fit_cons h
  obtain ⟨x4, r4, rfl, k4, h⟩ := fit_cons h
  obtain ⟨x5, r5, rfl, k5, h⟩ := fit_cons h
  obtain ⟨x6, r6, rfl, k6, h⟩ := fit_cons h
  obtain ⟨x7, r7, rfl, k7, h⟩ := fit_cons h
  obtain ⟨x8, r8, rfl, k8, h⟩ := fit_cons h
  obtain ⟨x9, r9, rfl, k9, h9⟩ := fit_cons h
  obtain ⟨k, rfl, b1⟩ := fk_i k1
  obtain ⟨a, rfl⟩ := fk_u k2
  obtain ⟨b, rfl⟩ := fk_u k3
  obtain ⟨c, rfl, b2⟩ := fk_i k4
  obtain ⟨s, rfl, b3⟩ := fk_i k5
  obtain ⟨op, rfl, b4⟩ := fk_i k6
  obtain ⟨d, rfl⟩ := fk_u k7
  obtain ⟨o, rfl⟩ := fk_u k8
  obtain ⟨lv, rfl⟩ := fk_q k9
  exact ⟨k, a, b, c, s, op, d, o, lv, r9, rfl, ⟨L2.length h9, (fit_all h9).2.1, (fit_all h9).1⟩, b1, b2, b3, b4⟩

def wrB (k : Int) (g : Bool) : Bool := if k = 3 then true else if k = 4 then true else if k = 6 then g else if k = 8 then g else false
end
end Go.Proofs.YtcbhelkafelofaaGreat
namespace Go.Proofs.YtcbhelkafelofaaGreat
open Go.Am
set_option linter.unusedSimpArgs false
set_option linter.unusedVariables false
noncomputable section

theorem pf_bel0 {m : List Sc} (n : Nat) (h : m.all Sc.pf = true) : m.all (Sc.bel n) = true := by
  rw [List.all_eq_true] at h ⊢
  intro x hx
  have := h x hx
  cases x <;> simp_all [Sc.pf, Sc.bel]
def askR (r : List Sc) : Prop := r.length = 10 ∧ r.all Sc.pf = true ∧ r.all Sc.one = true
instance decAskR (r : List Sc) : Decidable (askR r) := Classical.propDecidable _
def zMl : List Sc := (List.replicate 8 [Sc.b false, .b false, .b false, .u 0#64, .i 0]).flatten
def anC (d : BitVec 64) (g : Bool) : List Sc := .u d :: .b g :: zMl
theorem zMl_len : zMl.length = 40 := by decide
theorem zMl_take : zMl.take 40 = zMl := by rw [← zMl_len, List.take_length]
theorem zMl_drop : zMl.drop 40 = [] := by rw [← zMl_len, List.drop_length]
theorem zMl_one : zMl.all Sc.one = true := rfl
theorem zMl_pf : zMl.all Sc.pf = true := rfl
theorem zMl_bel {n : Nat} : zMl.all (Sc.bel n) = true := (pf_bel0 n zMl_pf)
theorem anC_bel {d : BitVec 64} {g : Bool} {n : Nat} : (anC d g).all (Sc.bel n) = true := by unfold anC; rw [List.all_cons, List.all_cons, zMl_bel]; rfl
theorem anT_bel {d : BitVec 64} {g q : Bool} {n : Nat} : (AV.t [.g (anC d g), .c (.b q)]).bel n = true := by
  show ((anC d g).all (Sc.bel n) && (true && true)) = true
  rw [anC_bel]; rfl
theorem zAns : zT Tryz.prog 34 = some (.u 0#64 :: .b false :: zMl) := by kernel_rfl
attribute [go_sem] zMl_len zMl_take zMl_drop zMl_one zMl_pf
attribute [go_sem 2000] zAns
end
end Go.Proofs.YtcbhelkafelofaaGreat
