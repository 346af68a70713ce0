/- Layer 13: a table of reservations: contracts. -/
import Derived.Test.YtflcjnekmjdckaaGreatSpl
namespace Go.Proofs.YtflcjnekmjdckaaGreat
open Go.Am
set_option linter.unusedSimpArgs false
set_option linter.unusedVariables false
noncomputable section

/-- a reservation, if it is one -/
structure Sl where
  is : Bool
  ln : BitVec 64
def slC (x : Sl) : List Sc := [.b x.is, .u x.ln]
def dcS : List Sc → Option Sl
  | [.b q, .u l] => some ⟨q, l⟩
  | _ => none
theorem dcS_e (x : Sl) : dcS (slC x) = some x := rfl
theorem dcS_d (cs : List Sc) (x : Sl) (h : dcS cs = some x) : cs = slC x := by
  unfold dcS at h
  split at h
  · simp only [Option.some.injEq] at h; subst h; rfl
  · simp at h
theorem slC_l (x : Sl) : (slC x).length = 2 := rfl
def z0 : Sl := ⟨false, 0#64⟩
def tabC (R : List Sl) : List Sc := R.flatMap slC
def tabD : AObj → Option (List Sl)
  | .own cs => if cs.length = 16 then decN 2 dcS 8 cs else none
  | _ => none
theorem tabD_inv {o : AObj} {R : List Sl} (h : tabD o = some R) : R.length = 8 ∧ o = .own (tabC R) := by
  unfold tabD at h
  split at h
  · split at h
    · rename_i hc
      obtain ⟨h1, h2⟩ := decN_dec (w := 2) (f := slC) dcS_d 8 _ R hc h
      exact ⟨h1, by rw [h2]; rfl⟩
    · simp at h
  · simp at h
theorem tabC_l {R : List Sl} (h : R.length = 8) : (tabC R).length = 16 := by unfold tabC; rw [fm_len slC_l, h]
theorem tabD_of {R : List Sl} (h : R.length = 8) : tabD (.own (tabC R)) = some R := by
  simp only [tabD, tabC_l h, if_true]
  have := decN_enc slC_l dcS_e R
  rw [h] at this
  exact this
theorem tabC_bel (R : List Sl) (n : Nat) : (tabC R).all (Sc.bel n) = true := by unfold tabC; rw [List.all_flatMap]; exact List.all_eq_true.2 fun _ _ => rfl
def in8 (h : Int) : Bool := decide (0 ≤ h) && decide (h < 8)
theorem in8_nat {h : Int} (x : in8 h = true) : ∃ k : Nat, h = k ∧ k < 8 := by
  simp only [in8, Bool.and_eq_true, decide_eq_true_eq] at x
  exact ⟨h.toNat, by omega, by omega⟩
theorem in8_k {k : Nat} (h : k < 8) : in8 (k : Int) = true := by simp [in8]; omega
def at8 (R : List Sl) (h : Int) : Sl := if in8 h = true then R.getD h.toNat z0 else z0
def setT (R : List Sl) (h : Int) (x : Sl) : List Sl := if in8 h = true then R.set h.toNat x else R
theorem setT_l {R : List Sl} {h : Int} {x : Sl} : (setT R h x).length = R.length := by unfold setT; split <;> simp
def hasT (R : List Sl) (h : Int) (l : BitVec 64) : Bool := in8 h && ((at8 R h).is && decide ((at8 R h).ln = l))
def s_vin (args : List AV) : Option AV :=
  match args with
  | [.c (.i h)] => some (.c (.b (in8 h)))
  | _ => none
theorem s_vin_eq {h} : s_vin [.c (.i h)] = some (.c (.b (in8 h))) := rfl
set_option maxRecDepth 100000 in
set_option maxHeartbeats 2000000 in
theorem ok_vin : PuOk Tryz.prog 55 s_vin := by
  refine pu_ok (tab := []) hmix TabOk.nil Tryz.func55 rfl Tryz.results55 Tryz.ntmps55 (by kernel_rfl) (by kernel_rfl) ?_
  intro args v h
  unfold s_vin at h
  split at h
  · rename_i h
    simp only [Option.some.injEq] at h; subst h
    refine ⟨by simp only [List.length_cons, List.length_nil]; decide, rfl, rfl, ?_⟩
    by_cases h1 : 0 ≤ h
    all_goals (try simp (config := { maxSteps := 10000000 }) only [go_sem, seval, in8, h1]; repeat (simp (disch := omega) only [w64_d, ipos, ineg, dpos, dneg]; try simp (config := { maxSteps := 10000000 }) only [go_sem, seval, in8, h1]))
  · simp at h
/-- a table, or none -/
def tabP (H : AH) : Sc → Option (Option (List Sl))
  | .nilp => some none
  | .p id 0 0 => (tabD (hg H id)).map some
  | _ => none
theorem tabP_inv {H : AH} {x : Sc} {r : Option (List Sl)} (h : tabP H x = some r) : (x = .nilp ∧ r = none) ∨ ∃ id R, x = .p id 0 0 ∧ r = some R ∧ R.length = 8 ∧ hg H id = .own (tabC R) := by
  unfold tabP at h
  split at h
  · simp at h; exact .inl ⟨rfl, h.symm⟩
  · rw [Option.map_eq_some_iff] at h
    obtain ⟨R, h1, h2⟩ := h
    obtain ⟨h3, h4⟩ := tabD_inv h1
    exact .inr ⟨_, R, rfl, h2.symm, h3, h4⟩
  · simp at h
theorem tabP_of {H : AH} {id : Nat} {R : List Sl} (h : hg H id = .own (tabC R)) (hl : R.length = 8) : tabP H (.p id 0 0) = some (some R) := by
  simp only [tabP, h, tabD_of hl, Option.map_some]
def setP (H : AH) (x : Sc) (R : List Sl) : AH :=
  match x with
  | .p id _ _ => H.set id (.own (tabC R))
  | _ => H
theorem setP_len {H : AH} {x : Sc} {R : List Sl} : (setP H x R).length = H.length := by unfold setP; split <;> simp
theorem sl_cell {R : List Sl} {k : Nat} {x : Sl} (h : R[k]? = some x) : (tabC R).getD (k * 2) .any = .b x.is ∧ (tabC R).getD (k * 2 + 1) .any = .u x.ln ∧ ((tabC R).drop (k * 2)).take 2 = [.b x.is, .u x.ln] := by
  have e1 := fm_cell slC_l h (i := 0) (by decide)
  rw [Nat.add_zero] at e1
  exact ⟨e1, fm_cell slC_l h (i := 1) (by decide), fm_get slC_l h⟩
theorem at8_k {R : List Sl} {k : Nat} {x : Sl} (hk : k < 8) (h : R[k]? = some x) : at8 R k = x := by
  unfold at8; rw [if_pos (in8_k hk), Int.toNat_natCast, List.getD_eq_getElem?_getD, h]; rfl
theorem sl_some {R : List Sl} {k : Nat} (hR : R.length = 8) (hk : k < 8) : ∃ x, R[k]? = some x := ⟨_, List.getElem?_eq_getElem (by omega)⟩

/-! ### what is asked -/
def s_vof (args : List AV) (H : AH) : Option AV :=
  match args with
  | [.c x, .c (.i h)] =>
    match tabP H x with
    | some (some R) => some (.t [.c (.u (at8 R h).ln), .c (.b (at8 R h).is)])
    | some none => some (.t [.c (.u 0#64), .c (.b false)])
    | none => none
  | _ => none
theorem s_vof_eq {H : AH} {x : Sc} {h : Int} {R : List Sl} (hR : tabP H x = some (some R)) : s_vof [.c x, .c (.i h)] H = some (.t [.c (.u (at8 R h).ln), .c (.b (at8 R h).is)]) := by simp only [s_vof, hR]
theorem s_vof_nil {H : AH} {h : Int} : s_vof [.c .nilp, .c (.i h)] H = some (.t [.c (.u 0#64), .c (.b false)]) := rfl
def s_vhas (args : List AV) (H : AH) : Option AV :=
  match args with
  | [.c x, .c (.i h), .c (.u l)] =>
    match tabP H x with
    | some (some R) => some (.c (.b (hasT R h l)))
    | some none => some (.c (.b false))
    | none => none
  | _ => none
theorem s_vhas_eq {H : AH} {x : Sc} {h : Int} {l : BitVec 64} {R : List Sl} (hR : tabP H x = some (some R)) : s_vhas [.c x, .c (.i h), .c (.u l)] H = some (.c (.b (hasT R h l))) := by simp only [s_vhas, hR]
theorem s_vhas_nil {H : AH} {h : Int} {l : BitVec 64} : s_vhas [.c .nilp, .c (.i h), .c (.u l)] H = some (.c (.b false)) := rfl
set_option maxRecDepth 100000 in
set_option maxHeartbeats 2000000 in
theorem ok_vhas : FpOk Tryz.prog 28 (fun args H => (s_vhas args H).map fun v => (v, H)) := by
  refine fq_ok (s := s_vhas) (tab := [(55, .pu s_vin)]) hmix (TabOk.cons (e := .pu s_vin) ok_vin TabOk.nil) Tryz.func28 rfl Tryz.results28 Tryz.ntmps28 (by kernel_rfl) (by kernel_rfl) ?_
  intro args H v h hargs hH
  unfold s_vhas at h
  split at h
  · rename_i x h0 l
    split at h
    · rename_i R hR
      simp only [Option.some.injEq] at h
      subst h
      refine ⟨by simp only [List.length_cons, List.length_nil]; decide, rfl, ?_⟩
      rcases tabP_inv hR with ⟨rfl, hq⟩ | ⟨id, R', rfl, hq, hl, ho⟩
      · simp at hq
      · simp only [Option.some.injEq] at hq; subst hq
        cases hi : in8 h0
        · (try simp (config := { maxSteps := 10000000 }) only [go_sem, seval, s_vin_eq, hi, hasT]; repeat (simp (disch := omega) only [w64_d, ipos, ineg, dpos, dneg]; try simp (config := { maxSteps := 10000000 }) only [go_sem, seval, s_vin_eq, hi, hasT]))
          exact subH_refl _
        · obtain ⟨k, rfl, hk⟩ := in8_nat hi
          obtain ⟨y, hy⟩ := sl_some hl hk
          obtain ⟨c0, c1, c2⟩ := sl_cell hy
          have e := at8_k hk hy
          have lt := tabC_l hl
          have eq : (y.is == true) = y.is := by cases y.is <;> rfl
          (try simp (config := { maxSteps := 10000000 }) only [go_sem, seval, s_vin_eq, hi, ho, e, c2, lt, hasT, eq, Int.toNat_natCast]; repeat (simp (disch := omega) only [w64_d, ipos, ineg, dpos, dneg]; try simp (config := { maxSteps := 10000000 }) only [go_sem, seval, s_vin_eq, hi, ho, e, c2, lt, hasT, eq, Int.toNat_natCast]))
          exact subH_refl _
    · simp only [Option.some.injEq] at h
      subst h
      rename_i hR
      refine ⟨by simp only [List.length_cons, List.length_nil]; decide, rfl, ?_⟩
      rcases tabP_inv hR with ⟨rfl, hq⟩ | ⟨id, R', rfl, hq, hl, ho⟩
      · (try simp (config := { maxSteps := 10000000 }) only [go_sem, seval]; repeat (simp (disch := omega) only [w64_d, ipos, ineg, dpos, dneg]; try simp (config := { maxSteps := 10000000 }) only [go_sem, seval]))
        exact subH_refl _
      · simp at hq
    · simp at h
  · simp at h
end
end Go.Proofs.YtflcjnekmjdckaaGreat
