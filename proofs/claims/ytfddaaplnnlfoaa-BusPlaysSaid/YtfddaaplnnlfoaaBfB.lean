/- Layer 18: copies; the document: new buses. -/
import Derived.Test.YtfddaaplnnlfoaaBfA
namespace Go.Proofs.Ytfddaaplnnlfoaa
open Go.Am
set_option linter.unusedSimpArgs false
set_option linter.unusedVariables false
noncomputable section

/-! ## XBf3 -/
section
variable {H : AH} {D : Bd}

theorem pi_ptD {K : AH} {h : Nat} {t : Pt} {x y : Sc} (hP : PI K h t x y) : ptD K h = some (t, x, y) := ptD_of hP
/-! ### the time -/
def q_btime (args : List AV) (H : AH) (v : AV) : Prop := (args = [.c .nilp] → v = .c (.u 0#64)) ∧ ∀ D, args = [.c (.p D.id 0 0)] → BI H D → v = .c (.u D.b.c.t)
def s_btime : List AV → AH → Option AV := frQ Try.prog [(36, .fq s_ctime)] 12 q_btime
set_option maxRecDepth 100000 in
set_option maxHeartbeats 2000000 in
theorem ok_btime : FpOk Try.prog 12 (fun args H => (s_btime args H).map fun v => (v, H)) := frQ_ok hmix (TabOk.cons (e := .fq s_ctime) ok_ctime TabOk.nil) Try.func12 rfl Try.results12 Try.ntmps12 (by kernel_rfl) (by kernel_rfl)
theorem s_btime_nil : s_btime [.c .nilp] H = some (.c (.u 0#64)) := by
  have : ∃ v, s_btime [.c .nilp] H = some v ∧ q_btime [.c .nilp] H v := by
    unfold s_btime
    apply frQ_ex (v := .c (.u 0#64)) Try.func12 rfl Try.results12 Try.ntmps12 (by simp only [List.length_cons, List.length_nil]; decide)
    · exact fun _ _ => rfl
    · intro _ _
      (try simp (config := { maxSteps := 10000000 }) only [go_sem, seval]; repeat (simp (disch := omega) only [w64_d, ipos, ineg, dpos, dneg]; try simp (config := { maxSteps := 10000000 }) only [go_sem, seval]))
      exact subH_refl _
    · exact ⟨fun _ => rfl, fun E he _ => by simp at he⟩
  obtain ⟨v, h1, h2⟩ := this
  rw [h1, h2.1 rfl]
theorem s_btime_eq (hB : BI H D) : s_btime [.c (.p D.id 0 0)] H = some (.c (.u D.b.c.t)) := by
  have : ∃ v, s_btime [.c (.p D.id 0 0)] H = some v ∧ q_btime [.c (.p D.id 0 0)] H v := by
    unfold s_btime
    apply frQ_ex (v := .c (.u D.b.c.t)) Try.func12 rfl Try.results12 Try.ntmps12 (by simp only [List.length_cons, List.length_nil]; decide)
    · exact fun _ _ => rfl
    · intro _ _
      have ho := hB.ho
      have ll := hB.l
      have ct := s_ctime_eq hB.ck
      (try simp (config := { maxSteps := 10000000 }) only [go_sem, seval, ho, ll, ct]; repeat (simp (disch := omega) only [w64_d, ipos, ineg, dpos, dneg]; try simp (config := { maxSteps := 10000000 }) only [go_sem, seval, ho, ll, ct]))
      exact subH_refl _
    · refine ⟨fun he => by simp at he, fun E he hE => ?_⟩
      simp only [List.cons.injEq, AV.c.injEq, Sc.p.injEq, and_true] at he
      rw [hB.uniq hE he]
  obtain ⟨v, h1, h2⟩ := this
  rw [h1, h2.2 D rfl hB]
/-! ### what went out, what waits -/
def s_bout (args : List AV) (H : AH) : Option (AV × AH) :=
  match args with
  | [.c .nilp] => some (.c .nils, H)
  | [.c (.p id 0 0)] =>
    match hg H id with
    | .own (.p pid 0 0 :: cs) => if cs.length = 87 then (match s_uout [.c (.p pid 0 0)] H with | some (.c s, H1) => some (.c s, H1) | _ => none) else none
    | _ => none
  | _ => none
theorem len_bout (args : List AV) (H : AH) (v : AV) (H1 : AH) (h : s_bout args H = some (v, H1)) : H.length ≤ H1.length := by
  unfold s_bout at h
  repeat' split at h
  all_goals first
    | (simp at h; done)
    | (simp at h; rw [← h.2]; exact Nat.le_refl _)
    | (rename_i e; simp at h; rw [← h.2]; exact len_uout _ _ _ _ e)
set_option maxRecDepth 100000 in
set_option maxHeartbeats 2000000 in
theorem ok_bout : FpOk Try.prog 13 s_bout := by
  refine fp_ok (s := s_bout) (tab := [(37, .fp s_uout)]) hmix (TabOk.cons (e := .fp s_uout) ok_uout TabOk.nil) Try.func13 rfl Try.results13 Try.ntmps13 (by kernel_rfl) (by kernel_rfl) len_bout ?_
  intro args H v H1 h hargs hH
  unfold s_bout at h
  split at h
  · simp only [Option.some.injEq, Prod.mk.injEq] at h
    obtain ⟨rfl, rfl⟩ := h
    refine ⟨by simp only [List.length_cons, List.length_nil]; decide, ?_⟩
    (try simp (config := { maxSteps := 10000000 }) only [go_sem, seval]; repeat (simp (disch := omega) only [w64_d, ipos, ineg, dpos, dneg]; try simp (config := { maxSteps := 10000000 }) only [go_sem, seval]))
    exact fin_same
  · split at h
    · rename_i ho
      split at h
      · rename_i hl
        split at h
        · rename_i e
          simp only [Option.some.injEq, Prod.mk.injEq] at h
          obtain ⟨rfl, rfl⟩ := h
          refine ⟨by simp only [List.length_cons, List.length_nil]; decide, ?_⟩
          (try simp (config := { maxSteps := 10000000 }) only [go_sem, seval, ho, hl, e]; repeat (simp (disch := omega) only [w64_d, ipos, ineg, dpos, dneg]; try simp (config := { maxSteps := 10000000 }) only [go_sem, seval, ho, hl, e]))
          exact fin_same
        · simp at h
      · simp at h
    · simp at h
  · simp at h
theorem s_bout_nil : s_bout [.c .nilp] H = some (.c .nils, H) := rfl
theorem s_bout_eq (hB : BI H D) (hs : D.t.B.length ≤ 1000000) : s_bout [.c (.p D.id 0 0)] H = some (.c (.sl H.length 0 D.t.B.length D.t.B.length), H ++ [.vec 1 (D.t.B.flatMap enc8)]) := by
  have ll := hB.l
  simp only [busC, List.length_cons] at ll
  simp only [s_bout, hB.ho, busC, out_ok hB.pi hs]
  rw [if_pos (by simp only [List.length_cons]; omega)]
def s_bwait (args : List AV) (H : AH) : Option (AV × AH) :=
  match args with
  | [.c .nilp] => some (.c .nils, H)
  | [.c (.p id 0 0)] =>
    match hg H id with
    | .own (.p pid 0 0 :: cs) => if cs.length = 87 then (match s_uwaiting [.c (.p pid 0 0)] H with | some (.c s, H1) => some (.c s, H1) | _ => none) else none
    | _ => none
  | _ => none
theorem len_bwait (args : List AV) (H : AH) (v : AV) (H1 : AH) (h : s_bwait args H = some (v, H1)) : H.length ≤ H1.length := by
  unfold s_bwait at h
  repeat' split at h
  all_goals first
    | (simp at h; done)
    | (simp at h; rw [← h.2]; exact Nat.le_refl _)
    | (rename_i e; simp at h; rw [← h.2]; exact len_uwaiting _ _ _ _ e)
set_option maxRecDepth 100000 in
set_option maxHeartbeats 2000000 in
theorem ok_bwait : FpOk Try.prog 14 s_bwait := by
  refine fp_ok (s := s_bwait) (tab := [(38, .fp s_uwaiting)]) hmix (TabOk.cons (e := .fp s_uwaiting) ok_uwaiting TabOk.nil) Try.func14 rfl Try.results14 Try.ntmps14 (by kernel_rfl) (by kernel_rfl) len_bwait ?_
  intro args H v H1 h hargs hH
  unfold s_bwait at h
  split at h
  · simp only [Option.some.injEq, Prod.mk.injEq] at h
    obtain ⟨rfl, rfl⟩ := h
    refine ⟨by simp only [List.length_cons, List.length_nil]; decide, ?_⟩
    (try simp (config := { maxSteps := 10000000 }) only [go_sem, seval]; repeat (simp (disch := omega) only [w64_d, ipos, ineg, dpos, dneg]; try simp (config := { maxSteps := 10000000 }) only [go_sem, seval]))
    exact fin_same
  · split at h
    · rename_i ho
      split at h
      · rename_i hl
        split at h
        · rename_i e
          simp only [Option.some.injEq, Prod.mk.injEq] at h
          obtain ⟨rfl, rfl⟩ := h
          refine ⟨by simp only [List.length_cons, List.length_nil]; decide, ?_⟩
          (try simp (config := { maxSteps := 10000000 }) only [go_sem, seval, ho, hl, e]; repeat (simp (disch := omega) only [w64_d, ipos, ineg, dpos, dneg]; try simp (config := { maxSteps := 10000000 }) only [go_sem, seval, ho, hl, e]))
          exact fin_same
        · simp at h
      · simp at h
    · simp at h
  · simp at h
theorem s_bwait_nil : s_bwait [.c .nilp] H = some (.c .nils, H) := rfl
theorem s_bwait_eq (hB : BI H D) (hs : D.t.A.length ≤ 1000000) : s_bwait [.c (.p D.id 0 0)] H = some (.c (.sl H.length 0 D.t.A.length D.t.A.length), H ++ [.vec 1 (D.t.A.flatMap enc8)]) := by
  have ll := hB.l
  simp only [busC, List.length_cons] at ll
  simp only [s_bwait, hB.ho, busC, waiting_ok hB.pi hs]
  rw [if_pos (by simp only [List.length_cons]; omega)]
/-! ### copies -/
def cloC (n : Nat) (t : Pt) : AH := [.own (poC (poOf t (.sl (n + 1) 0 t.A.length t.A.length) (.sl (n + 2) 0 t.B.length t.B.length))), .vec 1 (t.A.flatMap enc8), .vec 1 (t.B.flatMap enc8)]
def q_bclo (args : List AV) (H : AH) (v : AV) (H1 : AH) : Prop := (args = [.c .nilp] → v = .c .nilp ∧ H1 = H) ∧
  ∀ D, args = [.c (.p D.id 0 0)] → BI H D → v = .c (.p (H.length + 3) 0 0) ∧ H1 = H ++ (cloC H.length D.t ++ [.own (busC H.length D.b)])
def s_bclo : List AV → AH → Option (AV × AH) := frS Try.prog [(39, .fp s_uclo)] 15 q_bclo
set_option maxRecDepth 100000 in
set_option maxHeartbeats 2000000 in
theorem ok_bclo : FpOk Try.prog 15 s_bclo := frS_ok hmix (TabOk.cons (e := .fp s_uclo) ok_uclo TabOk.nil) Try.func15 rfl Try.results15 Try.ntmps15 (by kernel_rfl) (by kernel_rfl)
theorem s_bclo_nil : s_bclo [.c .nilp] H = some (.c .nilp, H) := by
  have : ∃ v H1, s_bclo [.c .nilp] H = some (v, H1) ∧ H.length ≤ H1.length ∧ q_bclo [.c .nilp] H v H1 := by
    unfold s_bclo
    apply frS_ex (v := .c .nilp) Try.func15 rfl Try.results15 Try.ntmps15 (by simp only [List.length_cons, List.length_nil]; decide)
    · intro _ _
      (try simp (config := { maxSteps := 10000000 }) only [go_sem, seval]; repeat (simp (disch := omega) only [w64_d, ipos, ineg, dpos, dneg]; try simp (config := { maxSteps := 10000000 }) only [go_sem, seval]))
      exact fin_same
    · exact Nat.le_refl _
    · exact ⟨fun _ => ⟨rfl, rfl⟩, fun E he _ => by simp at he⟩
  obtain ⟨v, H1, h1, _, h2⟩ := this
  obtain ⟨rfl, rfl⟩ := h2.1 rfl
  exact h1
theorem s_bclo_eq (hB : BI H D) (hf : Few D.t) : s_bclo [.c (.p D.id 0 0)] H = some (.c (.p (H.length + 3) 0 0), H ++ (cloC H.length D.t ++ [.own (busC H.length D.b)])) := by
  have : ∃ v H1, s_bclo [.c (.p D.id 0 0)] H = some (v, H1) ∧ H.length ≤ H1.length ∧ q_bclo [.c (.p D.id 0 0)] H v H1 := by
    have ho := hB.ho
    have hoX : ∀ X, hg (H ++ X) D.id = .own (busC D.pid D.b) := fun X => (hB.app X).ho
    have uc := s_uclo_eq (pi_ptD hB.pi) hf
    have l1 := ckC_l hB.ok.c
    have l2 := pkC_l hB.ok.k
    have o1 := ckC_one D.b.c
    have o2 := pkC_one D.b.k
    have t1 : ∀ m : List Sc, List.take 18 (ckC D.b.c ++ m) = ckC D.b.c := fun m => List.take_left' l1
    have t2 : List.take 68 (pkC D.b.k) = pkC D.b.k := List.take_of_length_le (by omega)
    have t3 : ∀ m : List Sc, List.drop 18 (ckC D.b.c ++ m) = m := fun m => List.drop_left' l1
    have t4 : ∀ m : List Sc, List.drop 86 (ckC D.b.c ++ m) = List.drop 68 m := fun m => by rw [List.drop_append, l1, List.drop_of_length_le (by omega), List.nil_append]
    unfold busC at ho hoX
    unfold s_bclo
    apply frS_ex (v := .c (.p (H.length + 3) 0 0)) (H1 := H ++ (cloC H.length D.t ++ [.own (busC H.length D.b)])) Try.func15 rfl Try.results15 Try.ntmps15 (by simp only [List.length_cons, List.length_nil]; decide)
    · intro _ _
      (try simp (config := { maxSteps := 10000000 }) only [go_sem, seval, ho, hoX, uc, l1, l2, o1, o2, t1, t2, t3, t4]; repeat (simp (disch := omega) only [w64_d, ipos, ineg, dpos, dneg]; try simp (config := { maxSteps := 10000000 }) only [go_sem, seval, ho, hoX, uc, l1, l2, o1, o2, t1, t2, t3, t4]))
      (repeat' first | apply And.intro | (intro _; kernel_rfl) | kernel_rfl)
      exact fin_same
    · simp
    · refine ⟨fun he => by simp at he, fun E he hE => ?_⟩
      simp only [List.cons.injEq, AV.c.injEq, Sc.p.injEq, and_true] at he
      rw [hB.uniq hE he]
      exact ⟨rfl, rfl⟩
  obtain ⟨v, H1, h1, _, h2⟩ := this
  obtain ⟨rfl, rfl⟩ := h2.2 D rfl hB
  exact h1
end

/-! ## XBf4 -/
section
/-! ### the document's controller, as cells -/
def rb32 (w : BitVec 32) : List Sc := (List.range 32).map fun i => .b (w.getLsbD i)
def rpT (k : Pk) : List Sc := k.p.map Sc.i ++ (rb32 k.w ++ (rb32 k.q ++ (rb32 k.s ++ (k.e.flatMap rb32 ++ k.l.map Sc.i))))
def rpk (k : Pk) : List Sc := .i k.n :: rpT k
theorem rb32_l (w : BitVec 32) : (rb32 w).length = 32 := by simp [rb32]
theorem rpT_l {k : Pk} (h : PkOk k) : (rpT k).length = 656 := by
  have : (k.e.flatMap rb32).length = 512 := by rw [fm_len rb32_l, h.e]
  simp [rpT, h.p, h.l, rb32_l, this]
theorem rb32_all {f : Sc → Bool} (hf : ∀ q, f (.b q) = true) (w : BitVec 32) : (rb32 w).all f = true := by
  unfold rb32
  rw [List.all_map]
  exact List.all_eq_true.2 fun _ _ => hf _
theorem rpT_all {f : Sc → Bool} (hf : ∀ q, f (.b q) = true) (hi : ∀ n, f (.i n) = true) (k : Pk) : (rpT k).all f = true := by
  have hm : ∀ l : List Int, (l.map Sc.i).all f = true := fun l => by rw [List.all_map]; exact List.all_eq_true.2 fun _ _ => hi _
  have he : (k.e.flatMap rb32).all f = true := by
    rw [List.all_flatMap]
    exact List.all_eq_true.2 fun w _ => rb32_all hf w
  simp only [rpT, List.all_append, hm, he, rb32_all hf, Bool.and_self]
theorem rpT_one (k : Pk) : (rpT k).all Sc.one = true := rpT_all (fun _ => rfl) (fun _ => rfl) k
theorem rpT_pf (k : Pk) : (rpT k).all Sc.pf = true := rpT_all (fun _ => rfl) (fun _ => rfl) k
theorem rpT_z (n : Int) : rpT (pkZ n) = rpT (pkZ 0) := rfl
def rp0 : List Sc := rpT (pkZ 0)
theorem rp0_l : rp0.length = 656 := rpT_l (pkZ_ok (by decide) (by decide))
theorem rp0_one : rp0.all Sc.one = true := rpT_one _
theorem rp0_pf : rp0.all Sc.pf = true := rpT_pf _
theorem rp0_t : List.take 656 rp0 = rp0 := List.take_of_length_le (by rw [rp0_l]; exact Nat.le_refl _)
theorem rp0_d : List.drop 656 rp0 = [] := List.drop_of_length_le (by rw [rp0_l]; exact Nat.le_refl _)
theorem rpk_N (n : Int) : rpk (pkN n) = .i (pkN n).n :: rp0 := by
  unfold pkN
  split <;> rfl
theorem zT_P : zT Try.prog 63 = some (.i 0 :: rp0) := by kernel_rfl
attribute [go_sem] rp0_l rp0_one rp0_t rp0_d
attribute [go_sem 2000] zT_P
def s_rnew16 (args : List AV) : Option AV :=
  match args with
  | [.c (.i n)] => some (.g (.i (pkN n).n :: rp0))
  | _ => none
theorem s_rnew16_eq {n} : s_rnew16 [.c (.i n)] = some (.g (.i (pkN n).n :: rp0)) := rfl
set_option maxRecDepth 100000 in
set_option maxHeartbeats 2000000 in
theorem ok_rnew16 : PuOk Try.prog 44 s_rnew16 := by
  refine pu_ok (tab := []) hmix TabOk.nil Try.func44 rfl Try.results44 Try.ntmps44 (by kernel_rfl) (by kernel_rfl) ?_
  intro args v h
  unfold s_rnew16 at h
  split at h
  · rename_i n
    simp only [Option.some.injEq] at h; subst h
    have pp := rp0_pf
    refine ⟨by simp only [List.length_cons, List.length_nil]; decide, by first | rfl | simp only [List.all_cons, List.all_nil, AV.pf, Sc.pf, Bool.and_true, *], by first | rfl | simp only [List.all_cons, List.all_nil, AV.pf, Sc.pf, Bool.and_true, *], ?_⟩
    by_cases c1 : n < 1
    · have e : pkN n = pkZ 0 := if_neg (by omega)
      rw [e, show (pkZ 0).n = 0 from rfl]
      (try simp (config := { maxSteps := 10000000 }) only [go_sem, seval, c1]; repeat (simp (disch := omega) only [w64_d, ipos, ineg, dpos, dneg]; try simp (config := { maxSteps := 10000000 }) only [go_sem, seval, c1]))
    by_cases c2 : 8 < n
    · have e : pkN n = pkZ 0 := if_neg (by omega)
      rw [e, show (pkZ 0).n = 0 from rfl]
      (try simp (config := { maxSteps := 10000000 }) only [go_sem, seval, c1, c2]; repeat (simp (disch := omega) only [w64_d, ipos, ineg, dpos, dneg]; try simp (config := { maxSteps := 10000000 }) only [go_sem, seval, c1, c2]))
    have e : pkN n = pkZ n := if_pos (by omega)
    rw [e, show (pkZ n).n = n from rfl]
    (try simp (config := { maxSteps := 10000000 }) only [go_sem, seval, c1, c2]; repeat (simp (disch := omega) only [w64_d, ipos, ineg, dpos, dneg]; try simp (config := { maxSteps := 10000000 }) only [go_sem, seval, c1, c2]))
  · simp at h
def s_rnew15 (args : List AV) : Option AV :=
  match args with
  | [.c (.i h)] => some (.g (ckC (ckN h)))
  | _ => none
theorem s_rnew15_eq {h} : s_rnew15 [.c (.i h)] = some (.g (ckC (ckN h))) := rfl
set_option maxRecDepth 100000 in
set_option maxHeartbeats 2000000 in
theorem ok_rnew15 : PuOk Try.prog 43 s_rnew15 := by
  refine pu_ok (tab := []) hmix TabOk.nil Try.func43 rfl Try.results43 Try.ntmps43 (by kernel_rfl) (by kernel_rfl) ?_
  intro args v h
  unfold s_rnew15 at h
  split at h
  · rename_i h
    simp only [Option.some.injEq] at h; subst h
    have pp := ckC_pf (ckN h)
    refine ⟨by simp only [List.length_cons, List.length_nil]; decide, by first | rfl | simp only [List.all_cons, List.all_nil, AV.pf, Sc.pf, Bool.and_true, *], by first | rfl | simp only [List.all_cons, List.all_nil, AV.pf, Sc.pf, Bool.and_true, *], ?_⟩
    by_cases c1 : h < 1
    · have e : ckN h = ckI 0 0 := if_neg (by omega)
      rw [e]
      (try simp (config := { maxSteps := 10000000 }) only [go_sem, seval, c1]; repeat (simp (disch := omega) only [w64_d, ipos, ineg, dpos, dneg]; try simp (config := { maxSteps := 10000000 }) only [go_sem, seval, c1]))
      rfl
    by_cases c2 : 8 < h
    · have e : ckN h = ckI 0 0 := if_neg (by omega)
      rw [e]
      (try simp (config := { maxSteps := 10000000 }) only [go_sem, seval, c1, c2]; repeat (simp (disch := omega) only [w64_d, ipos, ineg, dpos, dneg]; try simp (config := { maxSteps := 10000000 }) only [go_sem, seval, c1, c2]))
      rfl
    obtain ⟨m, rfl⟩ : ∃ m : Nat, h = (m : Int) := ⟨h.toNat, by omega⟩
    have e : ckN (m : Int) = ckI m m := by unfold ckN; rw [if_pos (by omega), Int.toNat_natCast]
    rw [e]
    (try simp (config := { maxSteps := 10000000 }) only [go_sem, seval, c1, c2]; repeat (simp (disch := omega) only [w64_d, ipos, ineg, dpos, dneg]; try simp (config := { maxSteps := 10000000 }) only [go_sem, seval, c1, c2]))
    refine arun_for m (fun i => ([(0, .c (.i m)), (2, .c (.p 0 0 0)), (3, .c (.p 1 0 0)), (4, .c (.i i))], [.own (ckC (ckI 0 0)), .own (ckC (ckI m i))])) (Wk.frq rfl (Wk.fq (by simp [Am.get]))) fun i hi => ?_
    have ll := ckC_l (ckI_ok (h := m) (by omega) (by omega) (i := i) (by omega))
    by_cases hlt : i < m
    · have w := ckI_wr (h := m) (by omega) (by omega) (i := i) (by omega)
      have e0 : (i : Int) < (m : Int) := by omega
      have e1 : w64 ((i : Int) + 1) = ((i + 1 : Nat) : Int) := by rw [w64_d (by omega) (by omega)]; omega
      (try simp (config := { maxSteps := 10000000 }) only [go_sem, seval, e0, e1, w, Int.toNat_natCast]; repeat (simp (disch := omega) only [w64_d, ipos, ineg, dpos, dneg]; try simp (config := { maxSteps := 10000000 }) only [go_sem, seval, e0, e1, w, Int.toNat_natCast]))
      exact ⟨i + 1, by omega, by omega, Wk.fq (by simp [Am.get])⟩
    · obtain rfl : i = m := by omega
      have t18 : List.take 18 (ckC (ckI i i)) = ckC (ckI i i) := List.take_of_length_le (by omega)
      have l0 : (ckC (ckI 0 0)).length = 18 := rfl
      have one := ckC_one (ckI i i)
      have dn : List.drop 18 (ckC (ckI 0 0)) = [] := rfl
      (try simp (config := { maxSteps := 10000000 }) only [go_sem, seval, t18, ll, l0, one, dn]; repeat (simp (disch := omega) only [w64_d, ipos, ineg, dpos, dneg]; try simp (config := { maxSteps := 10000000 }) only [go_sem, seval, t18, ll, l0, one, dn]))
  · simp at h
/-- the document's bus, as cells -/
def rbC (n : Int) (c : Ck) (k : Pk) (t : Pt) (u v : Sc) : List Sc := .i n :: (ckC c ++ (rpk k ++ rpC t u v))
def rb0 : List Sc := ckC (ckI 0 0) ++ (.i 0 :: (rp0 ++ rpC pt0 .nils .nils))
theorem zT_B : zT Try.prog 67 = some (.i 0 :: rb0) := by kernel_rfl
attribute [go_sem 2000] zT_B
theorem rbN_pf (n : Int) : (ckC (ckN n) ++ (.i (pkN n).n :: (rp0 ++ rpC pt0 .nils .nils))).all Sc.pf = true := by
  rw [List.all_append, List.all_cons, List.all_append, ckC_pf, rp0_pf]; rfl
theorem rbN_l (n : Int) : (ckC (ckN n) ++ (.i (pkN n).n :: (rp0 ++ rpC pt0 .nils .nils))).length = 686 := by
  rw [List.length_append, List.length_cons, List.length_append, ckC_l (ckN_ok n), rp0_l]; rfl
def s_rnew18 (args : List AV) : Option AV :=
  match args with
  | [.c (.i n)] => some (.g (.i n :: (ckC (ckN n) ++ (.i (pkN n).n :: (rp0 ++ rpC pt0 .nils .nils)))))
  | _ => none
theorem s_rnew18_eq {n} : s_rnew18 [.c (.i n)] = some (.g (.i n :: (ckC (ckN n) ++ (.i (pkN n).n :: (rp0 ++ rpC pt0 .nils .nils))))) := rfl
set_option maxRecDepth 100000 in
set_option maxHeartbeats 2000000 in
theorem ok_rnew18 : PuOk Try.prog 20 s_rnew18 := by
  refine pu_ok (tab := [(43, .pu s_rnew15), (44, .pu s_rnew16)]) hmix (TabOk.cons (e := .pu s_rnew15) ok_rnew15 (TabOk.cons (e := .pu s_rnew16) ok_rnew16 TabOk.nil)) Try.func20 rfl Try.results20 Try.ntmps20 (by kernel_rfl) (by kernel_rfl) ?_
  intro args v h
  unfold s_rnew18 at h
  split at h
  · rename_i n
    simp only [Option.some.injEq] at h; subst h
    have pp := rbN_pf n
    refine ⟨by simp only [List.length_cons, List.length_nil]; decide, by first | rfl | simp only [List.all_cons, List.all_nil, AV.pf, Sc.pf, Bool.and_true, *], by first | rfl | simp only [List.all_cons, List.all_nil, AV.pf, Sc.pf, Bool.and_true, *], ?_⟩
    have l1 := ckC_l (ckN_ok n)
    have o1 := ckC_one (ckN n)
    have l0 : (ckC (ckI 0 0)).length = 18 := rfl
    have lb : rb0.length = 686 := by unfold rb0; rw [List.length_append, List.length_cons, List.length_append, l0, rp0_l]; rfl
    have t1 : ∀ m : List Sc, List.take 18 (ckC (ckN n) ++ m) = ckC (ckN n) := fun m => List.take_left' l1
    have d1 : List.drop 18 rb0 = .i 0 :: (rp0 ++ rpC pt0 .nils .nils) := by unfold rb0; exact List.drop_left' l0
    have d2 : ∀ m : List Sc, List.drop 675 (ckC (ckN n) ++ m) = List.drop 657 m := fun m => by rw [List.drop_append, l1, List.drop_of_length_le (by omega), List.nil_append]
    have d3 : ∀ m : List Sc, List.drop 656 (rp0 ++ m) = m := fun m => List.drop_left' rp0_l
    have d4 : List.drop 686 rb0 = [] := List.drop_of_length_le (by omega)
    have lp : (rpC pt0 .nils .nils).length = 11 := rfl
    have op : (rpC pt0 .nils .nils).all Sc.one = true := rfl
    have oo : (ckC (ckN n) ++ (.i (pkN n).n :: (rp0 ++ rpC pt0 .nils .nils))).all Sc.one = true := by
      rw [List.all_append, List.all_cons, List.all_append, ckC_one, rp0_one]; rfl
    have tt : List.take 686 (ckC (ckN n) ++ (.i (pkN n).n :: (rp0 ++ rpC pt0 .nils .nils))) = ckC (ckN n) ++ (.i (pkN n).n :: (rp0 ++ rpC pt0 .nils .nils)) := List.take_of_length_le (by rw [rbN_l]; exact Nat.le_refl _)
    (try simp (config := { maxSteps := 10000000 }) only [go_sem, seval, s_rnew15_eq, s_rnew16_eq, l1, o1, lb, t1, d1, d2, d3, d4, lp, op, oo, tt]; repeat (simp (disch := omega) only [w64_d, ipos, ineg, dpos, dneg]; try simp (config := { maxSteps := 10000000 }) only [go_sem, seval, s_rnew15_eq, s_rnew16_eq, l1, o1, lb, t1, d1, d2, d3, d4, lp, op, oo, tt]))
  · simp at h
/-! ### two buses -/
def bSame (D E : Bd) : Bool := by
  classical
  exact decide (D.b = E.b) && sameT D.t E.t
def q_bsame (args : List AV) (H : AH) (v : AV) : Prop := (args = [.c .nilp, .c .nilp] → v = .c (.b true)) ∧ ∀ D E, args = [.c (.p D.id 0 0), .c (.p E.id 0 0)] → BI H D → BI H E → v = .c (.b (bSame D E))
def s_bsame : List AV → AH → Option AV := frQ Try.prog [(40, .fq s_usame)] 16 q_bsame
set_option maxRecDepth 100000 in
set_option maxHeartbeats 2000000 in
theorem ok_bsame : FpOk Try.prog 16 (fun args H => (s_bsame args H).map fun v => (v, H)) := frQ_ok hmix (TabOk.cons (e := .fq s_usame) ok_usame TabOk.nil) Try.func16 rfl Try.results16 Try.ntmps16 (by kernel_rfl) (by kernel_rfl)
theorem s_bsame_nil {H : AH} : s_bsame [.c .nilp, .c .nilp] H = some (.c (.b true)) := by
  have : ∃ v, s_bsame [.c .nilp, .c .nilp] H = some v ∧ q_bsame [.c .nilp, .c .nilp] H v := by
    unfold s_bsame
    apply frQ_ex (v := .c (.b true)) Try.func16 rfl Try.results16 Try.ntmps16 (by simp only [List.length_cons, List.length_nil]; decide)
    · exact fun _ _ => rfl
    · intro _ _
      (try simp (config := { maxSteps := 10000000 }) only [go_sem, seval]; repeat (simp (disch := omega) only [w64_d, ipos, ineg, dpos, dneg]; try simp (config := { maxSteps := 10000000 }) only [go_sem, seval]))
      exact subH_refl _
    · exact ⟨fun _ => rfl, fun E F he _ _ => by simp at he⟩
  obtain ⟨v, h1, h2⟩ := this
  rw [h1, h2.1 rfl]
theorem fit_rest {l : List Sc} (gg : L2 FitK l [.n .i64, .q, .q, .q, .n .u64, .n .i64, .n .i64, .n .u64, .n .i64, .n .u64]) : askR l := by
  obtain ⟨z0, l0, rfl, k0, g0⟩ := fit_cons gg
  obtain ⟨y0, rfl, _, _⟩ := fk_i k0
  obtain ⟨z1, l1, rfl, k1, g1⟩ := fit_cons g0
  obtain ⟨y1, rfl⟩ := fk_q k1
  obtain ⟨z2, l2, rfl, k2, g2⟩ := fit_cons g1
  obtain ⟨y2, rfl⟩ := fk_q k2
  obtain ⟨z3, l3, rfl, k3, g3⟩ := fit_cons g2
  obtain ⟨y3, rfl⟩ := fk_q k3
  obtain ⟨z4, l4, rfl, k4, g4⟩ := fit_cons g3
  obtain ⟨y4, rfl⟩ := fk_u k4
  obtain ⟨z5, l5, rfl, k5, g5⟩ := fit_cons g4
  obtain ⟨y5, rfl, _, _⟩ := fk_i k5
  obtain ⟨z6, l6, rfl, k6, g6⟩ := fit_cons g5
  obtain ⟨y6, rfl, _, _⟩ := fk_i k6
  obtain ⟨z7, l7, rfl, k7, g7⟩ := fit_cons g6
  obtain ⟨y7, rfl⟩ := fk_u k7
  obtain ⟨z8, l8, rfl, k8, g8⟩ := fit_cons g7
  obtain ⟨y8, rfl, _, _⟩ := fk_i k8
  obtain ⟨z9, l9, rfl, k9, g9⟩ := fit_cons g8
  obtain ⟨y9, rfl⟩ := fk_u k9
  obtain rfl := fit_nil g9
  exact ⟨rfl, rfl, rfl⟩
end

end
end Go.Proofs.Ytfddaaplnnlfoaa
