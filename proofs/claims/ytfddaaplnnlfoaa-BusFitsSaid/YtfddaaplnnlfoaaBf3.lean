/- Layer 18: a bus that tells of itself, copies, and is compared: contracts. -/
import Derived.Test.YtfddaaplnnlfoaaBf2
namespace Go.Proofs.Ytfddaaplnnlfoaa
open Go.Am
set_option linter.unusedSimpArgs false
set_option linter.unusedVariables false
noncomputable section
variable {H : AH} {D : Bd}

theorem pi_ptD {K : AH} {h : Nat} {t : Pt} {x y : Sc} (hP : PI K h t x y) : ptD K h = some (t, x, y) := ptD_of hP
/-! ### the time -/
def q_btime (args : List AV) (H : AH) (v : AV) : Prop := (args = [.c .nilp] → v = .c (.u 0#64)) ∧ ∀ D, args = [.c (.p D.id 0 0)] → BI H D → v = .c (.u D.b.c.t)
def s_btime : List AV → AH → Option AV := frQ Try.prog [(36, .fq s_ctime)] 12 q_btime
set_option maxRecDepth 100000 in
set_option maxHeartbeats 2000000 in
theorem ok_btime : FpOk Try.prog 12 (fun args H => (s_btime args H).map fun v => (v, H)) := frQ_ok hmix (TabOk.cons (e := .fq s_ctime) ok_ctime TabOk.nil) Try.func12 rfl Try.results12 Try.ntmps12 (by kernel_rfl) (by kernel_rfl)
theorem s_btime_nil : s_btime [.c .nilp] H = some (.c (.u 0#64)) := by
  have : ∃ v, s_btime [.c .nilp] H = some v ∧ q_btime [.c .nilp] H v := by
    unfold s_btime
    apply frQ_ex (v := .c (.u 0#64)) Try.func12 rfl Try.results12 Try.ntmps12 (by simp only [List.length_cons, List.length_nil]; decide)
    · exact fun _ _ => rfl
    · intro _ _
      (try simp (config := { maxSteps := 10000000 }) only [go_sem, seval]; repeat (simp (disch := omega) only [w64_d, ipos, ineg, dpos, dneg]; try simp (config := { maxSteps := 10000000 }) only [go_sem, seval]))
      exact subH_refl _
    · exact ⟨fun _ => rfl, fun E he _ => by simp at he⟩
  obtain ⟨v, h1, h2⟩ := this
  rw [h1, h2.1 rfl]
theorem s_btime_eq (hB : BI H D) : s_btime [.c (.p D.id 0 0)] H = some (.c (.u D.b.c.t)) := by
  have : ∃ v, s_btime [.c (.p D.id 0 0)] H = some v ∧ q_btime [.c (.p D.id 0 0)] H v := by
    unfold s_btime
    apply frQ_ex (v := .c (.u D.b.c.t)) Try.func12 rfl Try.results12 Try.ntmps12 (by simp only [List.length_cons, List.length_nil]; decide)
    · exact fun _ _ => rfl
    · intro _ _
      have ho := hB.ho
      have ll := hB.l
      have ct := s_ctime_eq hB.ck
      (try simp (config := { maxSteps := 10000000 }) only [go_sem, seval, ho, ll, ct]; repeat (simp (disch := omega) only [w64_d, ipos, ineg, dpos, dneg]; try simp (config := { maxSteps := 10000000 }) only [go_sem, seval, ho, ll, ct]))
      exact subH_refl _
    · refine ⟨fun he => by simp at he, fun E he hE => ?_⟩
      simp only [List.cons.injEq, AV.c.injEq, Sc.p.injEq, and_true] at he
      rw [hB.uniq hE he]
  obtain ⟨v, h1, h2⟩ := this
  rw [h1, h2.2 D rfl hB]
/-! ### what went out, what waits -/
def s_bout (args : List AV) (H : AH) : Option (AV × AH) :=
  match args with
  | [.c .nilp] => some (.c .nils, H)
  | [.c (.p id 0 0)] =>
    match hg H id with
    | .own (.p pid 0 0 :: cs) => if cs.length = 87 then (match s_uout [.c (.p pid 0 0)] H with | some (.c s, H1) => some (.c s, H1) | _ => none) else none
    | _ => none
  | _ => none
theorem len_bout (args : List AV) (H : AH) (v : AV) (H1 : AH) (h : s_bout args H = some (v, H1)) : H.length ≤ H1.length := by
  unfold s_bout at h
  repeat' split at h
  all_goals first
    | (simp at h; done)
    | (simp at h; rw [← h.2]; exact Nat.le_refl _)
    | (rename_i e; simp at h; rw [← h.2]; exact len_uout _ _ _ _ e)
set_option maxRecDepth 100000 in
set_option maxHeartbeats 2000000 in
theorem ok_bout : FpOk Try.prog 13 s_bout := by
  refine fp_ok (s := s_bout) (tab := [(37, .fp s_uout)]) hmix (TabOk.cons (e := .fp s_uout) ok_uout TabOk.nil) Try.func13 rfl Try.results13 Try.ntmps13 (by kernel_rfl) (by kernel_rfl) len_bout ?_
  intro args H v H1 h hargs hH
  unfold s_bout at h
  split at h
  · simp only [Option.some.injEq, Prod.mk.injEq] at h
    obtain ⟨rfl, rfl⟩ := h
    refine ⟨by simp only [List.length_cons, List.length_nil]; decide, ?_⟩
    (try simp (config := { maxSteps := 10000000 }) only [go_sem, seval]; repeat (simp (disch := omega) only [w64_d, ipos, ineg, dpos, dneg]; try simp (config := { maxSteps := 10000000 }) only [go_sem, seval]))
    exact fin_same
  · split at h
    · rename_i ho
      split at h
      · rename_i hl
        split at h
        · rename_i e
          simp only [Option.some.injEq, Prod.mk.injEq] at h
          obtain ⟨rfl, rfl⟩ := h
          refine ⟨by simp only [List.length_cons, List.length_nil]; decide, ?_⟩
          (try simp (config := { maxSteps := 10000000 }) only [go_sem, seval, ho, hl, e]; repeat (simp (disch := omega) only [w64_d, ipos, ineg, dpos, dneg]; try simp (config := { maxSteps := 10000000 }) only [go_sem, seval, ho, hl, e]))
          exact fin_same
        · simp at h
      · simp at h
    · simp at h
  · simp at h
theorem s_bout_nil : s_bout [.c .nilp] H = some (.c .nils, H) := rfl
theorem s_bout_eq (hB : BI H D) (hs : D.t.B.length ≤ 1000000) : s_bout [.c (.p D.id 0 0)] H = some (.c (.sl H.length 0 D.t.B.length D.t.B.length), H ++ [.vec 1 (D.t.B.flatMap enc8)]) := by
  have ll := hB.l
  simp only [busC, List.length_cons] at ll
  simp only [s_bout, hB.ho, busC, out_ok hB.pi hs]
  rw [if_pos (by simp only [List.length_cons]; omega)]
def s_bwait (args : List AV) (H : AH) : Option (AV × AH) :=
  match args with
  | [.c .nilp] => some (.c .nils, H)
  | [.c (.p id 0 0)] =>
    match hg H id with
    | .own (.p pid 0 0 :: cs) => if cs.length = 87 then (match s_uwaiting [.c (.p pid 0 0)] H with | some (.c s, H1) => some (.c s, H1) | _ => none) else none
    | _ => none
  | _ => none
theorem len_bwait (args : List AV) (H : AH) (v : AV) (H1 : AH) (h : s_bwait args H = some (v, H1)) : H.length ≤ H1.length := by
  unfold s_bwait at h
  repeat' split at h
  all_goals first
    | (simp at h; done)
    | (simp at h; rw [← h.2]; exact Nat.le_refl _)
    | (rename_i e; simp at h; rw [← h.2]; exact len_uwaiting _ _ _ _ e)
set_option maxRecDepth 100000 in
set_option maxHeartbeats 2000000 in
theorem ok_bwait : FpOk Try.prog 14 s_bwait := by
  refine fp_ok (s := s_bwait) (tab := [(38, .fp s_uwaiting)]) hmix (TabOk.cons (e := .fp s_uwaiting) ok_uwaiting TabOk.nil) Try.func14 rfl Try.results14 Try.ntmps14 (by kernel_rfl) (by kernel_rfl) len_bwait ?_
  intro args H v H1 h hargs hH
  unfold s_bwait at h
  split at h
  · simp only [Option.some.injEq, Prod.mk.injEq] at h
    obtain ⟨rfl, rfl⟩ := h
    refine ⟨by simp only [List.length_cons, List.length_nil]; decide, ?_⟩
    (try simp (config := { maxSteps := 10000000 }) only [go_sem, seval]; repeat (simp (disch := omega) only [w64_d, ipos, ineg, dpos, dneg]; try simp (config := { maxSteps := 10000000 }) only [go_sem, seval]))
    exact fin_same
  · split at h
    · rename_i ho
      split at h
      · rename_i hl
        split at h
        · rename_i e
          simp only [Option.some.injEq, Prod.mk.injEq] at h
          obtain ⟨rfl, rfl⟩ := h
          refine ⟨by simp only [List.length_cons, List.length_nil]; decide, ?_⟩
          (try simp (config := { maxSteps := 10000000 }) only [go_sem, seval, ho, hl, e]; repeat (simp (disch := omega) only [w64_d, ipos, ineg, dpos, dneg]; try simp (config := { maxSteps := 10000000 }) only [go_sem, seval, ho, hl, e]))
          exact fin_same
        · simp at h
      · simp at h
    · simp at h
  · simp at h
theorem s_bwait_nil : s_bwait [.c .nilp] H = some (.c .nils, H) := rfl
theorem s_bwait_eq (hB : BI H D) (hs : D.t.A.length ≤ 1000000) : s_bwait [.c (.p D.id 0 0)] H = some (.c (.sl H.length 0 D.t.A.length D.t.A.length), H ++ [.vec 1 (D.t.A.flatMap enc8)]) := by
  have ll := hB.l
  simp only [busC, List.length_cons] at ll
  simp only [s_bwait, hB.ho, busC, waiting_ok hB.pi hs]
  rw [if_pos (by simp only [List.length_cons]; omega)]
/-! ### copies -/
def cloC (n : Nat) (t : Pt) : AH := [.own (poC (poOf t (.sl (n + 1) 0 t.A.length t.A.length) (.sl (n + 2) 0 t.B.length t.B.length))), .vec 1 (t.A.flatMap enc8), .vec 1 (t.B.flatMap enc8)]
def q_bclo (args : List AV) (H : AH) (v : AV) (H1 : AH) : Prop := (args = [.c .nilp] → v = .c .nilp ∧ H1 = H) ∧
  ∀ D, args = [.c (.p D.id 0 0)] → BI H D → v = .c (.p (H.length + 3) 0 0) ∧ H1 = H ++ (cloC H.length D.t ++ [.own (busC H.length D.b)])
def s_bclo : List AV → AH → Option (AV × AH) := frS Try.prog [(39, .fp s_uclo)] 15 q_bclo
set_option maxRecDepth 100000 in
set_option maxHeartbeats 2000000 in
theorem ok_bclo : FpOk Try.prog 15 s_bclo := frS_ok hmix (TabOk.cons (e := .fp s_uclo) ok_uclo TabOk.nil) Try.func15 rfl Try.results15 Try.ntmps15 (by kernel_rfl) (by kernel_rfl)
theorem s_bclo_nil : s_bclo [.c .nilp] H = some (.c .nilp, H) := by
  have : ∃ v H1, s_bclo [.c .nilp] H = some (v, H1) ∧ H.length ≤ H1.length ∧ q_bclo [.c .nilp] H v H1 := by
    unfold s_bclo
    apply frS_ex (v := .c .nilp) Try.func15 rfl Try.results15 Try.ntmps15 (by simp only [List.length_cons, List.length_nil]; decide)
    · intro _ _
      (try simp (config := { maxSteps := 10000000 }) only [go_sem, seval]; repeat (simp (disch := omega) only [w64_d, ipos, ineg, dpos, dneg]; try simp (config := { maxSteps := 10000000 }) only [go_sem, seval]))
      exact fin_same
    · exact Nat.le_refl _
    · exact ⟨fun _ => ⟨rfl, rfl⟩, fun E he _ => by simp at he⟩
  obtain ⟨v, H1, h1, _, h2⟩ := this
  obtain ⟨rfl, rfl⟩ := h2.1 rfl
  exact h1
theorem s_bclo_eq (hB : BI H D) (hf : Few D.t) : s_bclo [.c (.p D.id 0 0)] H = some (.c (.p (H.length + 3) 0 0), H ++ (cloC H.length D.t ++ [.own (busC H.length D.b)])) := by
  have : ∃ v H1, s_bclo [.c (.p D.id 0 0)] H = some (v, H1) ∧ H.length ≤ H1.length ∧ q_bclo [.c (.p D.id 0 0)] H v H1 := by
    have ho := hB.ho
    have hoX : ∀ X, hg (H ++ X) D.id = .own (busC D.pid D.b) := fun X => (hB.app X).ho
    have uc := s_uclo_eq (pi_ptD hB.pi) hf
    have l1 := ckC_l hB.ok.c
    have l2 := pkC_l hB.ok.k
    have o1 := ckC_one D.b.c
    have o2 := pkC_one D.b.k
    have t1 : ∀ m : List Sc, List.take 18 (ckC D.b.c ++ m) = ckC D.b.c := fun m => List.take_left' l1
    have t2 : List.take 68 (pkC D.b.k) = pkC D.b.k := List.take_of_length_le (by omega)
    have t3 : ∀ m : List Sc, List.drop 18 (ckC D.b.c ++ m) = m := fun m => List.drop_left' l1
    have t4 : ∀ m : List Sc, List.drop 86 (ckC D.b.c ++ m) = List.drop 68 m := fun m => by rw [List.drop_append, l1, List.drop_of_length_le (by omega), List.nil_append]
    unfold busC at ho hoX
    unfold s_bclo
    apply frS_ex (v := .c (.p (H.length + 3) 0 0)) (H1 := H ++ (cloC H.length D.t ++ [.own (busC H.length D.b)])) Try.func15 rfl Try.results15 Try.ntmps15 (by simp only [List.length_cons, List.length_nil]; decide)
    · intro _ _
      (try simp (config := { maxSteps := 10000000 }) only [go_sem, seval, ho, hoX, uc, l1, l2, o1, o2, t1, t2, t3, t4]; repeat (simp (disch := omega) only [w64_d, ipos, ineg, dpos, dneg]; try simp (config := { maxSteps := 10000000 }) only [go_sem, seval, ho, hoX, uc, l1, l2, o1, o2, t1, t2, t3, t4]))
      (repeat' first | apply And.intro | (intro _; kernel_rfl) | kernel_rfl)
      exact fin_same
    · simp
    · refine ⟨fun he => by simp at he, fun E he hE => ?_⟩
      simp only [List.cons.injEq, AV.c.injEq, Sc.p.injEq, and_true] at he
      rw [hB.uniq hE he]
      exact ⟨rfl, rfl⟩
  obtain ⟨v, H1, h1, _, h2⟩ := this
  obtain ⟨rfl, rfl⟩ := h2.2 D rfl hB
  exact h1
end
end Go.Proofs.Ytfddaaplnnlfoaa
