/- Layer 17: a port, from outside: contracts. -/
import Derived.Test.YtfddaaplnnlfoaaU5
import Derived.Test.YtfddaaplnnlfoaaArr
namespace Go.Proofs.Ytfddaaplnnlfoaa
open Go.Am
set_option linter.unusedSimpArgs false
set_option linter.unusedVariables false
noncomputable section

def wrP (p : Po) (off : BitVec 64) (b : Int) : Po :=
  if off = 0#64 then { p with dl := b }
  else if off = 1#64 then (if an8 p.l 128 = 0 then { p with em := p.em || (decide (¬ an8 b 2 = 0) && decide (an8 p.e 2 = 0)), e := an8 b 15 } else { p with dm := b })
  else if off = 3#64 then { p with l := b }
  else if off = 4#64 then { p with m := an8 b 31 }
  else { p with s := b }
def okN (r : Option (AV × AH)) : Option (AV × AH) :=
  match r with
  | some (_, H1) => some (.c (.b true), H1)
  | _ => none
theorem okN_inv {r : Option (AV × AH)} {v : AV} {H1 : AH} (h : okN r = some (v, H1)) : ∃ w, r = some (w, H1) ∧ v = .c (.b true) := by
  unfold okN at h
  split at h
  · simp only [Option.some.injEq, Prod.mk.injEq] at h
    obtain ⟨rfl, rfl⟩ := h
    exact ⟨_, rfl, rfl⟩
  · simp at h
theorem okN_len {f : List AV → AH → Option (AV × AH)} (hf : ∀ a H v H1, f a H = some (v, H1) → H.length ≤ H1.length) {a : List AV} {H H1 : AH} {v : AV} (h : okN (f a H) = some (v, H1)) : H.length ≤ H1.length := by
  obtain ⟨s, h1, _⟩ := okN_inv h
  exact hf _ _ _ _ h1
def s_uwrite (args : List AV) (H : AH) : Option (AV × AH) :=
  match args with
  | [.c .nilp, .c (.u _), .c (.k .u8 _)] => some (.c (.b false), H)
  | [.c (.p id 0 0), .c (.u off), .c (.k .u8 b)] =>
    if 7#64 < off then some (.c (.b false), H) else
    match poD (hg H id) with
    | none => none
    | some p =>
      if off = 0#64 ∧ an8 p.l 128 = 0 then okN (s_usend [.c (.p id 0 0), .c (.k .u8 b)] H)
      else if off = 2#64 then okN (s_uqueue [.c (.p id 0 0), .c (.k .u8 b)] H)
      else if off = 5#64 ∨ off = 6#64 then some (.c (.b true), H)
      else some (.c (.b true), H.set id (.own (poC (wrP p off b))))
  | _ => none
theorem len_uwrite (args : List AV) (H : AH) (v : AV) (H1 : AH) (h : s_uwrite args H = some (v, H1)) : H.length ≤ H1.length := by
  unfold s_uwrite at h
  repeat' split at h
  all_goals first
    | exact okN_len len_usend h
    | exact okN_len len_uqueue h
    | (simp at h; done)
    | (simp at h; rw [← h.2]; exact Nat.le_refl _)
    | (simp at h; rw [← h.2]; simp)
set_option maxRecDepth 100000 in
set_option maxHeartbeats 2000000 in
theorem ok_uwrite : FpOk Try.prog 66 s_uwrite := by
  refine fp_ok (s := s_uwrite) (tab := [(89, .fp s_usend), (90, .fp s_uqueue)]) hmix (TabOk.cons (e := .fp s_usend) ok_usend (TabOk.cons (e := .fp s_uqueue) ok_uqueue TabOk.nil)) Try.func66 rfl Try.results66 Try.ntmps66 (by kernel_rfl) (by kernel_rfl) len_uwrite ?_
  intro args H v H1 h hargs hH
  unfold s_uwrite at h
  split at h
  · rename_i off b
    simp only [Option.some.injEq, Prod.mk.injEq] at h
    obtain ⟨rfl, rfl⟩ := h
    refine ⟨by simp only [List.length_cons, List.length_nil]; decide, ?_⟩
    (try simp (config := { maxSteps := 10000000 }) only [go_sem, seval]; repeat (simp (disch := omega) only [w64_d, ipos, ineg, dpos, dneg]; try simp (config := { maxSteps := 10000000 }) only [go_sem, seval]))
    apply arun_straight
    (try simp (config := { maxSteps := 10000000 }) only [go_sem, seval]; repeat (simp (disch := omega) only [w64_d, ipos, ineg, dpos, dneg]; try simp (config := { maxSteps := 10000000 }) only [go_sem, seval]))
    exact fin_same
  · rename_i id off b
    refine ⟨by simp only [List.length_cons, List.length_nil]; decide, ?_⟩
    rcases off8 off with h7 | h7
    · rw [if_pos h7] at h
      simp only [Option.some.injEq, Prod.mk.injEq] at h
      obtain ⟨rfl, rfl⟩ := h
      (try simp (config := { maxSteps := 10000000 }) only [go_sem, seval, h7]; repeat (simp (disch := omega) only [w64_d, ipos, ineg, dpos, dneg]; try simp (config := { maxSteps := 10000000 }) only [go_sem, seval, h7]))
      apply arun_straight
      (try simp (config := { maxSteps := 10000000 }) only [go_sem, seval, h7]; repeat (simp (disch := omega) only [w64_d, ipos, ineg, dpos, dneg]; try simp (config := { maxSteps := 10000000 }) only [go_sem, seval, h7]))
      exact fin_same
    · have n7 : ¬ 7#64 < off := by rcases h7 with rfl | rfl | rfl | rfl | rfl | rfl | rfl | rfl <;> decide
      rw [if_neg n7] at h
      split at h
      · simp at h
      · rename_i p hp
        have hm := poD_inv hp
        have lid : id < H.length := hg_lt (by rw [hm]; rfl)
        have gg : ∀ o, hg (H.set id o) id = o := fun o => hg_set_same lid
        obtain ⟨e, l, m, s, dl, dm, ff, lo, em, x, y⟩ := p
        simp only at hm h
        (try simp (config := { maxSteps := 10000000 }) only [go_sem, seval]; repeat (simp (disch := omega) only [w64_d, ipos, ineg, dpos, dneg]; try simp (config := { maxSteps := 10000000 }) only [go_sem, seval]))
        apply arun_straight
        by_cases hl : an8 l 128 = 0
        all_goals rcases h7 with rfl | rfl | rfl | rfl | rfl | rfl | rfl | rfl
        all_goals simp [hl, wrP] at h
        all_goals first
          | (obtain ⟨rfl, rfl⟩ := h; by_cases h2 : an8 b 2 = 0 <;> by_cases h3 : an8 e 2 = 0 <;> (try simp (config := { maxSteps := 10000000 }) only [go_sem, seval, hm, hl, gg, h2, h3, decide_true, decide_false, Bool.and_true, Bool.and_false, Bool.or_true, Bool.or_false, not_true, not_false_eq_true, Bool.and_self]; repeat (simp (disch := omega) only [w64_d, ipos, ineg, dpos, dneg]; try simp (config := { maxSteps := 10000000 }) only [go_sem, seval, hm, hl, gg, h2, h3, decide_true, decide_false, Bool.and_true, Bool.and_false, Bool.or_true, Bool.or_false, not_true, not_false_eq_true, Bool.and_self])) <;> exact fin_same)
          | (obtain ⟨v', h1, rfl⟩ := okN_inv h; (try simp (config := { maxSteps := 10000000 }) only [go_sem, seval, hm, hl, h1]; repeat (simp (disch := omega) only [w64_d, ipos, ineg, dpos, dneg]; try simp (config := { maxSteps := 10000000 }) only [go_sem, seval, hm, hl, h1])); exact fin_same)
  · simp at h
def s_uinput (args : List AV) (H : AH) : Option (AV × AH) :=
  match args with
  | [.c .nilp, .c (.k .u8 _)] => some (.c (.b false), H)
  | [.c (.p id 0 0), .c (.k .u8 b)] =>
    match poD (hg H id) with
    | none => none
    | some p => if an8 p.m 16 = 0 then s_ucome [.c (.p id 0 0), .c (.k .u8 b)] H else some (.c (.b false), H)
  | _ => none
theorem len_uinput (args : List AV) (H : AH) (v : AV) (H1 : AH) (h : s_uinput args H = some (v, H1)) : H.length ≤ H1.length := by
  unfold s_uinput at h
  repeat' split at h
  all_goals first
    | exact len_ucome _ _ _ _ h
    | (simp at h; done)
    | (simp at h; rw [← h.2]; exact Nat.le_refl _)
theorem come_c {id : Nat} {b : Int} {H H1 : AH} {v : AV} (h : s_ucome [.c (.p id 0 0), .c (.k .u8 b)] H = some (v, H1)) : ∃ q, v = .c (.b q) := by
  unfold s_ucome at h
  repeat' split at h
  all_goals simp at h
  · exact ⟨_, h.1.symm⟩
  · exact ⟨_, h.1.symm⟩
set_option maxRecDepth 100000 in
set_option maxHeartbeats 2000000 in
theorem ok_uinput : FpOk Try.prog 31 s_uinput := by
  refine fp_ok (s := s_uinput) (tab := [(67, .fp s_ucome)]) hmix (TabOk.cons (e := .fp s_ucome) ok_ucome TabOk.nil) Try.func31 rfl Try.results31 Try.ntmps31 (by kernel_rfl) (by kernel_rfl) len_uinput ?_
  intro args H v H1 h hargs hH
  unfold s_uinput at h
  split at h
  · rename_i b
    simp only [Option.some.injEq, Prod.mk.injEq] at h
    obtain ⟨rfl, rfl⟩ := h
    refine ⟨by simp only [List.length_cons, List.length_nil]; decide, ?_⟩
    (try simp (config := { maxSteps := 10000000 }) only [go_sem, seval]; repeat (simp (disch := omega) only [w64_d, ipos, ineg, dpos, dneg]; try simp (config := { maxSteps := 10000000 }) only [go_sem, seval]))
    exact fin_same
  · rename_i id b
    refine ⟨by simp only [List.length_cons, List.length_nil]; decide, ?_⟩
    split at h
    · simp at h
    · rename_i p hp
      have hm := poD_inv hp
      split at h
      · rename_i hz
        obtain ⟨q, rfl⟩ := come_c h
        (try simp (config := { maxSteps := 10000000 }) only [go_sem, seval, hm, hz, h]; repeat (simp (disch := omega) only [w64_d, ipos, ineg, dpos, dneg]; try simp (config := { maxSteps := 10000000 }) only [go_sem, seval, hm, hz, h]))
        exact fin_same
      · rename_i hz
        simp only [Option.some.injEq, Prod.mk.injEq] at h
        obtain ⟨rfl, rfl⟩ := h
        (try simp (config := { maxSteps := 10000000 }) only [go_sem, seval, hm, hz]; repeat (simp (disch := omega) only [w64_d, ipos, ineg, dpos, dneg]; try simp (config := { maxSteps := 10000000 }) only [go_sem, seval, hm, hz]))
        exact fin_same
  · simp at h
def s_uline (args : List AV) (H : AH) : Option AV :=
  match args with
  | [.c .nilp] => some (.c (.b false))
  | [.c (.p id 0 0)] =>
    match poD (hg H id) with
    | some p =>
      match lenS p.x with
      | some n => some (.c (.b (!decide (causeT p n = 1))))
      | none => none
    | none => none
  | _ => none
theorem s_uline_eq {id : Nat} {H : AH} {p : Po} {n : Nat} (h : poD (hg H id) = some p) (hn : lenS p.x = some n) : s_uline [.c (.p id 0 0)] H = some (.c (.b (!decide (causeT p n = 1)))) := by
  simp only [s_uline, h, hn]
set_option maxRecDepth 100000 in
set_option maxHeartbeats 2000000 in
theorem ok_uline : FpOk Try.prog 33 (fun args H => (s_uline args H).map fun v => (v, H)) := by
  refine fq_ok (s := s_uline) (tab := [(70, .fq s_ucause)]) hmix (TabOk.cons (e := .fq s_ucause) ok_ucause TabOk.nil) Try.func33 rfl Try.results33 Try.ntmps33 (by kernel_rfl) (by kernel_rfl) ?_
  intro args H v h hargs hH
  unfold s_uline at h
  split at h
  · simp only [Option.some.injEq] at h
    subst h
    refine ⟨by simp only [List.length_cons, List.length_nil]; decide, rfl, ?_⟩
    (try simp (config := { maxSteps := 10000000 }) only [go_sem, seval]; repeat (simp (disch := omega) only [w64_d, ipos, ineg, dpos, dneg]; try simp (config := { maxSteps := 10000000 }) only [go_sem, seval]))
    first | exact subH_refl _ | exact ⟨rfl, subH_refl _⟩
  · rename_i id
    split at h
    · rename_i p hp
      split at h
      · rename_i n hn
        have cc := s_ucause_eq hp hn
        simp only [Option.some.injEq] at h
        subst h
        refine ⟨by simp only [List.length_cons, List.length_nil]; decide, rfl, ?_⟩
        (try simp (config := { maxSteps := 10000000 }) only [go_sem, seval, cc]; repeat (simp (disch := omega) only [w64_d, ipos, ineg, dpos, dneg]; try simp (config := { maxSteps := 10000000 }) only [go_sem, seval, cc]))
        first | exact subH_refl _ | exact ⟨rfl, subH_refl _⟩
      · simp at h
    · simp at h
  · simp at h
def s_uwaiting (args : List AV) (H : AH) : Option (AV × AH) :=
  match args with
  | [.c .nilp] => some (.c .nils, H)
  | [.c (.p id 0 0)] =>
    match poD (hg H id) with
    | some p => (cloneS H p.x).map fun r => (.c r.1, r.2)
    | none => none
  | _ => none
theorem cl_len {H H1 : AH} {x : Sc} {v : AV} (h : ((cloneS H x).map fun r => (AV.c r.1, r.2)) = some (v, H1)) : H.length ≤ H1.length := by
  rw [Option.map_eq_some_iff] at h
  obtain ⟨r, h1, h2⟩ := h
  simp only [Prod.mk.injEq] at h2
  rw [← h2.2]
  exact clone_len h1
theorem len_uwaiting (args : List AV) (H : AH) (v : AV) (H1 : AH) (h : s_uwaiting args H = some (v, H1)) : H.length ≤ H1.length := by
  unfold s_uwaiting at h
  repeat' split at h
  all_goals first
    | exact cl_len h
    | (simp at h; done)
    | (simp at h; rw [← h.2]; exact Nat.le_refl _)
set_option maxRecDepth 100000 in
set_option maxHeartbeats 2000000 in
theorem ok_uwaiting : FpOk Try.prog 38 s_uwaiting := by
  refine fp_ok (s := s_uwaiting) (tab := [(72, .fp s_uclone)]) hmix (TabOk.cons (e := .fp s_uclone) ok_uclone TabOk.nil) Try.func38 rfl Try.results38 Try.ntmps38 (by kernel_rfl) (by kernel_rfl) len_uwaiting ?_
  intro args H v H1 h hargs hH
  unfold s_uwaiting at h
  split at h
  · simp only [Option.some.injEq, Prod.mk.injEq] at h
    obtain ⟨rfl, rfl⟩ := h
    refine ⟨by simp only [List.length_cons, List.length_nil]; decide, ?_⟩
    (try simp (config := { maxSteps := 10000000 }) only [go_sem, seval]; repeat (simp (disch := omega) only [w64_d, ipos, ineg, dpos, dneg]; try simp (config := { maxSteps := 10000000 }) only [go_sem, seval]))
    exact fin_same
  · rename_i id
    split at h
    · rename_i p hp
      have hm := poD_inv hp
      rw [Option.map_eq_some_iff] at h
      obtain ⟨⟨x', H2⟩, h1, h2⟩ := h
      simp only [Prod.mk.injEq] at h2
      obtain ⟨rfl, rfl⟩ := h2
      have cq := s_uclone_eq h1
      refine ⟨by simp only [List.length_cons, List.length_nil]; decide, ?_⟩
      (try simp (config := { maxSteps := 10000000 }) only [go_sem, seval, hm, cq]; repeat (simp (disch := omega) only [w64_d, ipos, ineg, dpos, dneg]; try simp (config := { maxSteps := 10000000 }) only [go_sem, seval, hm, cq]))
      exact fin_same
    · simp at h
  · simp at h
def s_uout (args : List AV) (H : AH) : Option (AV × AH) :=
  match args with
  | [.c .nilp] => some (.c .nils, H)
  | [.c (.p id 0 0)] =>
    match poD (hg H id) with
    | some p => (cloneS H p.y).map fun r => (.c r.1, r.2)
    | none => none
  | _ => none
theorem len_uout (args : List AV) (H : AH) (v : AV) (H1 : AH) (h : s_uout args H = some (v, H1)) : H.length ≤ H1.length := by
  unfold s_uout at h
  repeat' split at h
  all_goals first
    | exact cl_len h
    | (simp at h; done)
    | (simp at h; rw [← h.2]; exact Nat.le_refl _)
set_option maxRecDepth 100000 in
set_option maxHeartbeats 2000000 in
theorem ok_uout : FpOk Try.prog 37 s_uout := by
  refine fp_ok (s := s_uout) (tab := [(72, .fp s_uclone)]) hmix (TabOk.cons (e := .fp s_uclone) ok_uclone TabOk.nil) Try.func37 rfl Try.results37 Try.ntmps37 (by kernel_rfl) (by kernel_rfl) len_uout ?_
  intro args H v H1 h hargs hH
  unfold s_uout at h
  split at h
  · simp only [Option.some.injEq, Prod.mk.injEq] at h
    obtain ⟨rfl, rfl⟩ := h
    refine ⟨by simp only [List.length_cons, List.length_nil]; decide, ?_⟩
    (try simp (config := { maxSteps := 10000000 }) only [go_sem, seval]; repeat (simp (disch := omega) only [w64_d, ipos, ineg, dpos, dneg]; try simp (config := { maxSteps := 10000000 }) only [go_sem, seval]))
    exact fin_same
  · rename_i id
    split at h
    · rename_i p hp
      have hm := poD_inv hp
      rw [Option.map_eq_some_iff] at h
      obtain ⟨⟨x', H2⟩, h1, h2⟩ := h
      simp only [Prod.mk.injEq] at h2
      obtain ⟨rfl, rfl⟩ := h2
      have cq := s_uclone_eq h1
      refine ⟨by simp only [List.length_cons, List.length_nil]; decide, ?_⟩
      (try simp (config := { maxSteps := 10000000 }) only [go_sem, seval, hm, cq]; repeat (simp (disch := omega) only [w64_d, ipos, ineg, dpos, dneg]; try simp (config := { maxSteps := 10000000 }) only [go_sem, seval, hm, cq]))
      exact fin_same
    · simp at h
  · simp at h
def po0 : Po := ⟨0, 0, 0, 0, 0, 0, false, false, false, .nils, .nils⟩
def s_unew (args : List AV) (H : AH) : Option (AV × AH) :=
  match args with
  | [] => some (.c (.p H.length 0 0), H ++ [.own (poC po0)])
  | _ => none
theorem len_unew (args : List AV) (H : AH) (v : AV) (H1 : AH) (h : s_unew args H = some (v, H1)) : H.length ≤ H1.length := by
  unfold s_unew at h
  split at h
  · simp at h; rw [← h.2]; simp
  · simp at h
set_option maxRecDepth 100000 in
set_option maxHeartbeats 2000000 in
theorem ok_unew : FpOk Try.prog 24 s_unew := by
  refine fp_ok (s := s_unew) (tab := []) hmix TabOk.nil Try.func24 rfl Try.results24 Try.ntmps24 (by kernel_rfl) (by kernel_rfl) len_unew ?_
  intro args H v H1 h hargs hH
  unfold s_unew at h
  split at h
  · simp only [Option.some.injEq, Prod.mk.injEq] at h
    obtain ⟨rfl, rfl⟩ := h
    refine ⟨by simp only [List.length_cons, List.length_nil]; decide, ?_⟩
    (try simp (config := { maxSteps := 10000000 }) only [go_sem, seval]; repeat (simp (disch := omega) only [w64_d, ipos, ineg, dpos, dneg]; try simp (config := { maxSteps := 10000000 }) only [go_sem, seval]))
    exact fin_same
  · simp at h
end
end Go.Proofs.Ytfddaaplnnlfoaa
