/- Layer 13: a table of reservations that stands in a struct: contracts. -/
import Derived.Test.YtflcjnekmjdckaaGreatRv2
namespace Go.Proofs.YtflcjnekmjdckaaGreat
open Go.Am
set_option linter.unusedSimpArgs false
set_option linter.unusedVariables false
noncomputable section

theorem wr_mid {A M B a : List Sc} {i : Nat} (h : i + a.length ≤ M.length) : wr (A ++ (M ++ B)) (A.length + i) a = A ++ (wr M i a ++ B) := by
  unfold wr
  rw [List.take_length_add_append, Nat.add_assoc, List.drop_append, List.take_append_of_le_length (by omega), List.drop_eq_nil_of_le (show A.length ≤ A.length + (i + a.length) by omega),
    show A.length + (i + a.length) - A.length = i + a.length by omega, List.drop_append_of_le_length h]
  simp only [List.append_assoc, List.nil_append]
theorem getD_mid {A M B : List Sc} {i : Nat} (h : i < M.length) : (A ++ (M ++ B)).getD (A.length + i) .any = M.getD i .any := by
  simp only [List.getD_eq_getElem?_getD]
  rw [List.getElem?_append_right (by omega), show A.length + i - A.length = i by omega, List.getElem?_append_left h]
theorem drop_mid {A M B : List Sc} {i n : Nat} (h : i + n ≤ M.length) : ((A ++ (M ++ B)).drop (A.length + i)).take n = (M.drop i).take n := by
  rw [List.drop_append, List.drop_eq_nil_of_le (by omega), show A.length + i - A.length = i by omega, List.nil_append, List.drop_append_of_le_length (by omega), List.take_append_of_le_length (by simp; omega)]
/-- a table at a place of an object -/
def tabQ (H : AH) : Sc → Option (List Sl)
  | .p id off 0 => match hg H id with
    | .own cs => if off + 16 ≤ cs.length then decN 2 dcS 8 ((cs.drop off).take 16) else none
    | _ => none
  | _ => none
def setQ (H : AH) (x : Sc) (R : List Sl) : AH :=
  match x with
  | .p id off _ => H.set id (.own ((hg H id).cells.take off ++ (tabC R ++ (hg H id).cells.drop (off + 16))))
  | _ => H
theorem setQ_len {H : AH} {x : Sc} {R : List Sl} : (setQ H x R).length = H.length := by unfold setQ; split <;> simp
theorem tabQ_inv {H : AH} {x : Sc} {R : List Sl} (h : tabQ H x = some R) : ∃ id A B, x = .p id A.length 0 ∧ hg H id = .own (A ++ (tabC R ++ B)) ∧ R.length = 8 := by
  unfold tabQ at h
  split at h
  · rename_i id off
    split at h
    · rename_i cs hcs
      split at h
      · rename_i hl
        obtain ⟨h1, h2⟩ := decN_dec (w := 2) (f := slC) dcS_d 8 _ R (by rw [List.length_take, List.length_drop]; omega) h
        have l1 : (cs.take off).length = off := by rw [List.length_take]; omega
        refine ⟨id, cs.take off, cs.drop (off + 16), by rw [l1], ?_, h1⟩
        rw [hcs, show tabC R = R.flatMap slC from rfl, ← h2, ← List.drop_drop, List.take_append_drop, List.take_append_drop]
      · simp at h
    · simp at h
  · simp at h
theorem tabQ_of {H : AH} {id : Nat} {A B : List Sc} {R : List Sl} (ho : hg H id = .own (A ++ (tabC R ++ B))) (hR : R.length = 8) : tabQ H (.p id A.length 0) = some R := by
  have l1 : A.length + 16 ≤ (A ++ (tabC R ++ B)).length := by simp only [List.length_append, tabC_l hR]; omega
  have e1 : ((A ++ (tabC R ++ B)).drop A.length).take 16 = tabC R := by
    have := drop_mid (A := A) (M := tabC R) (B := B) (i := 0) (n := 16) (by rw [tabC_l hR]; omega)
    rw [Nat.add_zero, List.drop_zero] at this
    rw [this, ← tabC_l hR, List.take_length]
  simp only [tabQ, ho, l1, if_true, e1]
  have := decN_enc slC_l dcS_e R
  rw [hR] at this
  exact this
theorem setQ_of {H : AH} {id : Nat} {A B : List Sc} {R S : List Sl} (ho : hg H id = .own (A ++ (tabC R ++ B))) (hR : R.length = 8) : setQ H (.p id A.length 0) S = H.set id (.own (A ++ (tabC S ++ B))) := by
  simp only [setQ, ho, AObj.cells]
  rw [List.take_left, ← List.append_assoc A (tabC R) B, List.drop_left' (by rw [List.length_append, tabC_l hR])]
/-! ### what is asked -/
def s_tbof (args : List AV) (H : AH) : Option AV :=
  match args with
  | [.c x, .c (.i h)] => (tabQ H x).map fun R => .t [.c (.u (at8 R h).ln), .c (.b (at8 R h).is)]
  | _ => none
theorem s_tbof_eq {H : AH} {x : Sc} {h : Int} {R : List Sl} (hR : tabQ H x = some R) : s_tbof [.c x, .c (.i h)] H = some (.t [.c (.u (at8 R h).ln), .c (.b (at8 R h).is)]) := by simp only [s_tbof, hR, Option.map_some]
def s_tbhas (args : List AV) (H : AH) : Option AV :=
  match args with
  | [.c x, .c (.i h), .c (.u l)] => (tabQ H x).map fun R => .c (.b (hasT R h l))
  | _ => none
theorem s_tbhas_eq {H : AH} {x : Sc} {h : Int} {l : BitVec 64} {R : List Sl} (hR : tabQ H x = some R) : s_tbhas [.c x, .c (.i h), .c (.u l)] H = some (.c (.b (hasT R h l))) := by simp only [s_tbhas, hR, Option.map_some]
set_option maxRecDepth 100000 in
set_option maxHeartbeats 2000000 in
theorem ok_tbhas : FpOk Tryz.prog 28 (fun args H => (s_tbhas args H).map fun v => (v, H)) := by
  refine fq_ok (s := s_tbhas) (tab := [(55, .pu s_vin)]) hmix (TabOk.cons (e := .pu s_vin) ok_vin TabOk.nil) Tryz.func28 rfl Tryz.results28 Tryz.ntmps28 (by kernel_rfl) (by kernel_rfl) ?_
  intro args H v h hargs hH
  unfold s_tbhas at h
  split at h
  · rename_i x h0 l
    rw [Option.map_eq_some_iff] at h
    obtain ⟨R, hR, rfl⟩ := h
    refine ⟨by simp only [List.length_cons, List.length_nil]; decide, rfl, ?_⟩
    obtain ⟨id, A, B, rfl, ho, hl⟩ := tabQ_inv hR
    cases hi : in8 h0
    · (try simp (config := { maxSteps := 10000000 }) only [go_sem, seval, s_vin_eq, hi, hasT]; repeat (simp (disch := omega) only [w64_d, ipos, ineg, dpos, dneg]; try simp (config := { maxSteps := 10000000 }) only [go_sem, seval, s_vin_eq, hi, hasT]))
      exact subH_refl _
    · obtain ⟨k, rfl, hk⟩ := in8_nat hi
      obtain ⟨y, hy⟩ := sl_some hl hk
      obtain ⟨c0, c1, c2⟩ := sl_cell hy
      have e := at8_k hk hy
      have lt := tabC_l hl
      have eq : (y.is == true) = y.is := by cases y.is <;> rfl
      have d2 : ((A ++ (tabC R ++ B)).drop (A.length + k * 2)).take 2 = [.b y.is, .u y.ln] := by rw [drop_mid (by omega), c2]
      have q : A.length + k * 2 + 2 ≤ (A ++ (tabC R ++ B)).length := by simp only [List.length_append, lt]; omega
      generalize A ++ (tabC R ++ B) = cs at *
      generalize A.length = off at *
      (try simp (config := { maxSteps := 10000000 }) only [go_sem, seval, s_vin_eq, hi, ho, e, d2, q, hasT, eq, Int.toNat_natCast]; repeat (simp (disch := omega) only [w64_d, ipos, ineg, dpos, dneg]; try simp (config := { maxSteps := 10000000 }) only [go_sem, seval, s_vin_eq, hi, ho, e, d2, q, hasT, eq, Int.toNat_natCast]))
      exact subH_refl _
  · simp at h
theorem setQ_bel {H : AH} {id : Nat} {A B : List Sc} {R S : List Sl} (ho : hg H id = .own (A ++ (tabC R ++ B))) (hR : R.length = 8) (hH : belH H = true) : belH (setQ H (.p id A.length 0) S) = true := by
  rw [setQ_of ho hR]
  refine bel_set' hH ?_
  have lid : id < H.length := hg_lt (by rw [ho]; rfl)
  have := bel_at hH id
  rw [ho] at this
  simp only [AObj.cells, AObj.scs, List.all_append, Bool.and_eq_true] at this ⊢
  exact ⟨this.1, tabC_bel _ _, this.2.2⟩
def s_tbset (args : List AV) (H : AH) : Option (AV × AH) :=
  match args with
  | [.c x, .c (.i h), .c (.u l)] => (tabQ H x).map fun R => (.c (.b (in8 h)), setQ H x (setT R h ⟨true, l⟩))
  | _ => none
theorem s_tbset_eq {H : AH} {x : Sc} {h : Int} {l : BitVec 64} {R : List Sl} (hR : tabQ H x = some R) : s_tbset [.c x, .c (.i h), .c (.u l)] H = some (.c (.b (in8 h)), setQ H x (setT R h ⟨true, l⟩)) := by simp only [s_tbset, hR, Option.map_some]
theorem len_tbset (args : List AV) (H : AH) (v : AV) (H1 : AH) (h : s_tbset args H = some (v, H1)) : H.length ≤ H1.length := by
  unfold s_tbset at h
  split at h
  · rw [Option.map_eq_some_iff] at h
    obtain ⟨R, _, h⟩ := h
    simp only [Prod.mk.injEq] at h
    rw [← h.2, setQ_len]; exact Nat.le_refl _
  · simp at h
set_option maxRecDepth 100000 in
set_option maxHeartbeats 2000000 in
theorem ok_tbset : FpOk Tryz.prog 26 s_tbset := by
  refine fp_ok (s := s_tbset) (tab := [(55, .pu s_vin)]) hmix (TabOk.cons (e := .pu s_vin) ok_vin TabOk.nil) Tryz.func26 rfl Tryz.results26 Tryz.ntmps26 (by kernel_rfl) (by kernel_rfl) len_tbset ?_
  intro args H v H1 h hargs hH
  unfold s_tbset at h
  split at h
  · rename_i x h0 l
    rw [Option.map_eq_some_iff] at h
    obtain ⟨R, hR, h⟩ := h
    simp only [Prod.mk.injEq] at h
    obtain ⟨rfl, rfl⟩ := h
    refine ⟨by simp only [List.length_cons, List.length_nil]; decide, ?_⟩
    obtain ⟨id, A, B, rfl, ho, hl⟩ := tabQ_inv hR
    have lid : id < H.length := hg_lt (by rw [ho]; rfl)
    have hb := fun S => setQ_bel (S := S) ho hl hH
    simp only [setQ_of ho hl] at hb ⊢
    cases hi : in8 h0
    · have e : setT R h0 ⟨true, l⟩ = R := by unfold setT; rw [if_neg (by rw [hi]; decide)]
      rw [e, set_self ho lid]
      (try simp (config := { maxSteps := 10000000 }) only [go_sem, seval, s_vin_eq, hi]; repeat (simp (disch := omega) only [w64_d, ipos, ineg, dpos, dneg]; try simp (config := { maxSteps := 10000000 }) only [go_sem, seval, s_vin_eq, hi]))
      exact fin_fp rfl (subH_refl _) hH (Nat.le_refl _)
    · obtain ⟨k, rfl, hk⟩ := in8_nat hi
      have e : setT R k ⟨true, l⟩ = R.set k ⟨true, l⟩ := by unfold setT; rw [if_pos hi]; rfl
      have lt := tabC_l hl
      have w1 : wr (A ++ (tabC R ++ B)) (A.length + k * 2) [.b true, .u l] = A ++ (tabC (R.set k ⟨true, l⟩) ++ B) := by
        rw [wr_mid (by simp; omega), wr_tab (R := R) (k := k) (y := ⟨true, l⟩) (by omega)]
      have q : A.length + k * 2 + 2 ≤ (A ++ (tabC R ++ B)).length := by simp only [List.length_append, lt]; omega
      have hb := hb (R.set k ⟨true, l⟩)
      rw [e]
      generalize A ++ (tabC (R.set k ⟨true, l⟩) ++ B) = cs2 at *
      generalize A ++ (tabC R ++ B) = cs at *
      generalize A.length = off at *
      (try simp (config := { maxSteps := 10000000 }) only [go_sem, seval, s_vin_eq, hi, ho, q, w1, Int.toNat_natCast]; repeat (simp (disch := omega) only [w64_d, ipos, ineg, dpos, dneg]; try simp (config := { maxSteps := 10000000 }) only [go_sem, seval, s_vin_eq, hi, ho, q, w1, Int.toNat_natCast]))
      exact fin_fp rfl (subH_refl _) hb (by simp)
  · simp at h
end
end Go.Proofs.YtflcjnekmjdckaaGreat
