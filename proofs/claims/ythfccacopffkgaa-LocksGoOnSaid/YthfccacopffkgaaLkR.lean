/- Layer 12: the law of two jobs. -/
import Derived.Test.YthfccacopffkgaaLkQ
namespace Go.Proofs.Ythfccacopffkgaa
open Go.Am
set_option linter.unusedSimpArgs false
set_option linter.unusedVariables false
noncomputable section
set_option maxRecDepth 100000

section
variable {H : AH}
theorem stN_le {S : LS} {w : Int} {L : List Int} {s : Nat} (hs : s ≤ 2 * L.length + 1) : stN S w L s ≤ 2 * L.length + 1 := by
  unfold stN
  split
  · exact hs
  · split
    · split <;> omega
    · omega
theorem dn_eq {L : List Int} {s : Nat} (hs : s ≤ 2 * L.length + 1) : dnJ L (decide (L.length < s)) ((s - (L.length + 1) : Nat) : Int) = decide (2 * L.length < s) := by
  unfold dnJ
  by_cases c : 2 * L.length < s
  · rw [decide_eq_true (show L.length < s by omega), Bool.true_and, decide_eq_true c]
    exact decide_eq_true (by omega)
  · rw [decide_eq_false c]
    simp only [Bool.and_eq_false_imp, decide_eq_true_eq, decide_eq_false_iff_not]
    omega
theorem JI.ylen {K : AH} {D : Ld} {Y : List Ly} {a b : List Int} {s1 s2 : Nat} (I : JI H K D Y a b s1 s2) : Y.length = 9 := by
  have := S_lenI I.lp.li
  rw [I.lp.s, lyS_len, I.dn] at this
  omega
theorem JI.new (hH : belH H = true) {A B : List Int} : JI H (H ++ [.map 0 [], .own [.i 9, .mp H.length], .vec 2 ((yN 9).flatMap lyC), .own [.sl (H.length + 4) 0 A.length (nN A).length, .i 0, .b false, .i 0], .vec 1 (cmpCI (srt ltI A)), .own [.sl (H.length + 6) 0 B.length (nN B).length, .i 0, .b false, .i 0], .vec 1 (cmpCI (srt ltI B)),
    .own [.sl (H.length + 4) 0 A.length (nN A).length, .i 0, .b false, .i 0, .sl (H.length + 6) 0 B.length (nN B).length, .i 0, .b false, .i 0], .vec 1 ((nN A).flatMap encI), .vec 1 ((nN B).flatMap encI), .own [.sl (H.length + 8) 0 (nN A).length (nN A).length, .i 0, .sl (H.length + 9) 0 (nN B).length (nN B).length, .i 0]])
    ⟨H.length + 1, H.length, 9, 0, []⟩ (yN 9) A B 0 0 := by
  have l := LpI.new (H := H) (n := 9) (by decide) (by decide)
  have j0 : ∀ (nx : Sc) (n : Nat) (X : List Sc), jbC nx n 0 X = nx :: .i 0 :: .b false :: .i 0 :: X := fun nx n X => by
    unfold jbC
    rw [Nat.zero_min, Nat.zero_sub, decide_eq_false (Nat.not_lt_zero _)]; rfl
  refine ⟨?_, rfl, fun i hi => ?_, fun y hy i hi => ?_, by simp, ?_, ?_, ?_, ?_, ?_, ?_, by omega, by omega⟩
  · have := l.grw (Grw.refl.app [.own [.sl (H.length + 4) 0 A.length (nN A).length, .i 0, .b false, .i 0], .vec 1 (cmpCI (srt ltI A)), .own [.sl (H.length + 6) 0 B.length (nN B).length, .i 0, .b false, .i 0], .vec 1 (cmpCI (srt ltI B)),
      .own [.sl (H.length + 4) 0 A.length (nN A).length, .i 0, .b false, .i 0, .sl (H.length + 6) 0 B.length (nN B).length, .i 0, .b false, .i 0], .vec 1 ((nN A).flatMap encI), .vec 1 ((nN B).flatMap encI), .own [.sl (H.length + 8) 0 (nN A).length (nN A).length, .i 0, .sl (H.length + 9) 0 (nN B).length (nN B).length, .i 0]])
    rwa [List.append_assoc] at this
  · simp only [Ld.ids, List.flatMap_nil, List.mem_cons, List.not_mem_nil, or_false] at hi
    rcases hi with rfl | rfl <;> omega
  · obtain rfl := List.eq_of_mem_replicate hy
    simp [sidI] at hi
  · rw [hg_len_add, j0, j0]; rfl
  · rw [hg_len_add]; rfl
  · rw [hg_len_add]; rfl
  · rw [hg_len_add]; rfl
  · rw [hg_len_add]; rfl
  · rw [hg_len_add]; rfl
/-- all of a round of the first job -/
theorem JI.round0 {K : AH} {D : Ld} {Y : List Ly} {A B : List Int} {s1 s2 : Nat} (I : JI H K D Y A B s1 s2) (hA : A.length ≤ 12) : ∃ K3 K4 E,
    s_lneeds [.c (.p (H.length + 7) 0 0)] K = some (.c (.sl K.length 0 (nN A).length (nN A).length), K ++ [.vec 1 ((nN A).flatMap encI)]) ∧
    s_ints [.c (.sl K.length 0 (nN A).length (nN A).length), .c (.sl (H.length + 8) 0 (nN A).length (nN A).length)] (K ++ [.vec 1 ((nN A).flatMap encI)]) = some (.c (.b true)) ∧
    s_ldone [.c (.p (H.length + 7) 0 0)] (K ++ [.vec 1 ((nN A).flatMap encI)]) = some (.c (.b (decide (2 * (nN A).length < s1)))) ∧
    s_lstep [.c (.p (H.length + 7) 0 0), .c (.p (H.length + 1) 0 0), .c (.i 0), .c (.f 26 [(K.length + 1, 0, 0)])] (K ++ [.vec 1 ((nN A).flatMap encI), .own [.i 0]]) = some (.c (.i (stV D.S 0 (nN A) s1)), K3) ∧
    s_rlstep [.g [.sl (H.length + 8) 0 (nN A).length (nN A).length, .i s1], .c (.sl (H.length + 2) 0 18 9), .c (.i 0)] K3 = some (.t [.g [.sl (H.length + 8) 0 (nN A).length (nN A).length, .i (stN D.S 0 (nN A) s1 : Nat)], .c (.i (stV D.S 0 (nN A) s1)), .c (.b (decide (s1 = (nN A).length)))], K4) ∧
    hg K3 (H.length + 10) = .own [.sl (H.length + 8) 0 (nN A).length (nN A).length, .i s1, .sl (H.length + 9) 0 (nN B).length (nN B).length, .i s2] ∧
    (∀ X, hg (K4 ++ X) (H.length + 10) = .own [.sl (H.length + 8) 0 (nN A).length (nN A).length, .i s1, .sl (H.length + 9) 0 (nN B).length (nN B).length, .i s2]) ∧ (∀ X o, hg ((K4 ++ X).set (H.length + 10) o) (K.length + 1) = .own [.i (if s1 = (nN A).length then 1 else 0)]) ∧
    ∀ X, ∃ Z, JI H ((K4 ++ X).set (H.length + 10) (.own [.sl (H.length + 8) 0 (nN A).length (nN A).length, .i (stN D.S 0 (nN A) s1 : Nat), .sl (H.length + 9) 0 (nN B).length (nN B).length, .i s2])) E Z A B (stN D.S 0 (nN A) s1) s2 := by
  have na := (nN_spec A).2.2
  have lK := I.len
  have hj := jb_at (A := []) I.pj
  have hp := slP_plan I.v4
  have hv8 : ∀ J : AH, hg J (H.length + 8) = .vec 1 ((nN A).flatMap encI) → isx J (.sl (H.length + 8) 0 (nN A).length (nN A).length) (nN A) := fun J hJ => .inr ⟨_, rfl, hJ⟩
  have hjX : jbA (K ++ [.vec 1 ((nN A).flatMap encI)]) (H.length + 7) 0 = _ := jb_at (A := []) (H := K ++ [.vec 1 ((nN A).flatMap encI)]) (by rw [hg_lt' (by omega), I.pj]; rfl)
  have hpX : slP dcI (K ++ [.vec 1 ((nN A).flatMap encI)]) (.sl (H.length + 4) 0 A.length (nN A).length) = some (nN A) := slP_plan (by rw [hg_lt' (by omega), I.v4])
  have d3 := s_ldone_eq hjX hpX
  rw [dn_eq I.b1] at d3
  obtain ⟨K3, E, e1, e2⟩ := j3_ex (w := 0) (o1 := .vec 1 ((nN A).flatMap encI)) I.lp.li (P := H.length + 7) (A := []) I.pj hp I.b1 (I.far (by omega) (by omega)).1 (fun i hi => by
    simp only [sidI, Option.some.injEq] at hi
    subst hi
    exact ⟨(I.far (by omega) (by omega)).1, by omega, by omega⟩) (by omega)
  rw [I.lp.p] at e1
  have l3 := e2.len
  have near : ∀ i, H.length + 2 < i → i < H.length + 11 → i ≠ H.length + 7 → hg K3 i = hg K i := fun i g1 g2 g3 => e2.old i (by omega) (I.far g1 g2).1 g3
  have x3 : XI K3 (H.length + 2) Y := I.lp.xi.frame (e2.old _ (by omega) (fun c => (I.lp.ids _ c).2.1 rfl) (by omega)) fun y hy i hi => e2.old i (isx_lt (I.lp.xi.q y hy) hi).1 (fun c => (I.lp.ids i c).2.2 y hy hi) (by have := I.y y hy i hi; omega)
  obtain ⟨K4, r1, r2, r3⟩ := s_rlstep_ex (w := 0) (s := s1) x3 (isx_sp (hv8 K3 (by rw [near _ (by omega) (by omega) (by omega), I.v8]))) (by simp [sidI]) I.lp.okS I.lp.okQ I.b1 (by omega) (by simp [Sc.bel]; omega)
  rw [← I.lp.s] at r1 r3
  unfold rsV xV at r1
  rw [I.ylen] at r1
  have nx := fun X => I.next e2 r3 (stN_le I.b1) I.b2 X
  obtain ⟨_, g1, g2, g3, g4, _⟩ := nx []
  refine ⟨K3, K4, E, s_lneeds_eq hj hp (by omega), s_ints_eq (A := nN A) (isx_sp (.inr ⟨_, rfl, by rw [hg_len]; rfl⟩)) (isx_sp (hv8 _ (by rw [hg_lt' (by omega), I.v8]))) (by omega), d3, e1, r1, by rw [near _ (by omega) (by omega) (by omega), I.qj], fun X => by rw [hg_lt' (by omega), g1], fun X o => by rw [hg_set_ne' (by omega), hg_lt' (by omega), g2], fun X => ?_⟩
  obtain ⟨Z, _, _, _, _, q⟩ := nx X
  exact ⟨Z, q⟩
/-- all of a round of the second job -/
theorem JI.round1 {K : AH} {D : Ld} {Y : List Ly} {A B : List Int} {s1 s2 : Nat} (I : JI H K D Y A B s1 s2) (hB : B.length ≤ 12) : ∃ K3 K4 E,
    s_lneeds [.c (.p (H.length + 7) 4 0)] K = some (.c (.sl K.length 0 (nN B).length (nN B).length), K ++ [.vec 1 ((nN B).flatMap encI)]) ∧
    s_ints [.c (.sl K.length 0 (nN B).length (nN B).length), .c (.sl (H.length + 9) 0 (nN B).length (nN B).length)] (K ++ [.vec 1 ((nN B).flatMap encI)]) = some (.c (.b true)) ∧
    s_ldone [.c (.p (H.length + 7) 4 0)] (K ++ [.vec 1 ((nN B).flatMap encI)]) = some (.c (.b (decide (2 * (nN B).length < s2)))) ∧
    s_lstep [.c (.p (H.length + 7) 4 0), .c (.p (H.length + 1) 0 0), .c (.i 1), .c (.f 26 [(K.length + 1, 0, 0)])] (K ++ [.vec 1 ((nN B).flatMap encI), .own [.i 0]]) = some (.c (.i (stV D.S 1 (nN B) s2)), K3) ∧
    s_rlstep [.g [.sl (H.length + 9) 0 (nN B).length (nN B).length, .i s2], .c (.sl (H.length + 2) 0 18 9), .c (.i 1)] K3 = some (.t [.g [.sl (H.length + 9) 0 (nN B).length (nN B).length, .i (stN D.S 1 (nN B) s2 : Nat)], .c (.i (stV D.S 1 (nN B) s2)), .c (.b (decide (s2 = (nN B).length)))], K4) ∧
    hg K3 (H.length + 10) = .own [.sl (H.length + 8) 0 (nN A).length (nN A).length, .i s1, .sl (H.length + 9) 0 (nN B).length (nN B).length, .i s2] ∧
    (∀ X, hg (K4 ++ X) (H.length + 10) = .own [.sl (H.length + 8) 0 (nN A).length (nN A).length, .i s1, .sl (H.length + 9) 0 (nN B).length (nN B).length, .i s2]) ∧ (∀ X o, hg ((K4 ++ X).set (H.length + 10) o) (K.length + 1) = .own [.i (if s2 = (nN B).length then 1 else 0)]) ∧
    ∀ X, ∃ Z, JI H ((K4 ++ X).set (H.length + 10) (.own [.sl (H.length + 8) 0 (nN A).length (nN A).length, .i s1, .sl (H.length + 9) 0 (nN B).length (nN B).length, .i (stN D.S 1 (nN B) s2 : Nat)])) E Z A B s1 (stN D.S 1 (nN B) s2) := by
  have nb := (nN_spec B).2.2
  have hpj : hg K (H.length + 7) = .own (jbC (.sl (H.length + 4) 0 A.length (nN A).length) (nN A).length s1 [] ++ jbC (.sl (H.length + 6) 0 B.length (nN B).length) (nN B).length s2 []) := I.pj
  have lK := I.len
  have hj := jb_at hpj
  have hp := slP_plan I.v6
  have hv9 : ∀ J : AH, hg J (H.length + 9) = .vec 1 ((nN B).flatMap encI) → isx J (.sl (H.length + 9) 0 (nN B).length (nN B).length) (nN B) := fun J hJ => .inr ⟨_, rfl, hJ⟩
  have hjX : jbA (K ++ [.vec 1 ((nN B).flatMap encI)]) (H.length + 7) 4 = _ := jb_at (A := jbC (.sl (H.length + 4) 0 A.length (nN A).length) (nN A).length s1 []) (H := K ++ [.vec 1 ((nN B).flatMap encI)]) (by rw [hg_lt' (by omega), hpj])
  have hpX : slP dcI (K ++ [.vec 1 ((nN B).flatMap encI)]) (.sl (H.length + 6) 0 B.length (nN B).length) = some (nN B) := slP_plan (by rw [hg_lt' (by omega), I.v6])
  have d3 := s_ldone_eq hjX hpX
  rw [dn_eq I.b2] at d3
  obtain ⟨K3, E, e1, e2⟩ := j3_ex (w := 1) (o1 := .vec 1 ((nN B).flatMap encI)) I.lp.li (P := H.length + 7) (A := jbC (.sl (H.length + 4) 0 A.length (nN A).length) (nN A).length s1 []) hpj hp I.b2 (I.far (by omega) (by omega)).1 (fun i hi => by
    simp only [sidI, Option.some.injEq] at hi
    subst hi
    exact ⟨(I.far (by omega) (by omega)).1, by omega, by omega⟩) (by omega)
  rw [I.lp.p] at e1
  have l3 := e2.len
  have near : ∀ i, H.length + 2 < i → i < H.length + 11 → i ≠ H.length + 7 → hg K3 i = hg K i := fun i g1 g2 g3 => e2.old i (by omega) (I.far g1 g2).1 g3
  have x3 : XI K3 (H.length + 2) Y := I.lp.xi.frame (e2.old _ (by omega) (fun c => (I.lp.ids _ c).2.1 rfl) (by omega)) fun y hy i hi => e2.old i (isx_lt (I.lp.xi.q y hy) hi).1 (fun c => (I.lp.ids i c).2.2 y hy hi) (by have := I.y y hy i hi; omega)
  obtain ⟨K4, r1, r2, r3⟩ := s_rlstep_ex (w := 1) (s := s2) x3 (isx_sp (hv9 K3 (by rw [near _ (by omega) (by omega) (by omega), I.v9]))) (by simp [sidI]) I.lp.okS I.lp.okQ I.b2 (by omega) (by simp [Sc.bel]; omega)
  rw [← I.lp.s] at r1 r3
  unfold rsV xV at r1
  rw [I.ylen] at r1
  have nx := fun X => I.next (t1 := s1) (t2 := stN D.S 1 (nN B) s2) e2 r3 I.b1 (stN_le I.b2) X
  obtain ⟨_, g1, g2, g3, g4, _⟩ := nx []
  refine ⟨K3, K4, E, s_lneeds_eq hj hp (by omega), s_ints_eq (A := nN B) (isx_sp (.inr ⟨_, rfl, by rw [hg_len]; rfl⟩)) (isx_sp (hv9 _ (by rw [hg_lt' (by omega), I.v9]))) (by omega), d3, e1, r1, by rw [near _ (by omega) (by omega) (by omega), I.qj], fun X => by rw [hg_lt' (by omega), g1], fun X o => by rw [hg_set_ne' (by omega), hg_lt' (by omega), g2], fun X => ?_⟩
  obtain ⟨Z, _, _, _, _, q⟩ := nx X
  exact ⟨Z, q⟩
def s_ljobs (args : List AV) (H : AH) : Option AV :=
  match args with
  | [.c x, .c y, .c z] =>
    match slD 1 dcI H x, slD 1 dcI H y, slD 1 dcB H z with
    | some A, some B, some P => if A.length ≤ 9223372036854775807 ∧ B.length ≤ 9223372036854775807 ∧ P.length ≤ 9223372036854775807 then some (.c (.b true)) else none
    | _, _, _ => none
  | _ => none
set_option maxRecDepth 100000 in
set_option maxHeartbeats 2000000 in
theorem ok_ljobs : FpOk Try.prog 5 (fun args H => (s_ljobs args H).map fun v => (v, H)) := by
  refine fq_ok (s := s_ljobs) (tab := [(8, .fp s_lnew), (15, .fp s_rlnew), (9, .fp s_lplan), (24, .fp s_rlneed), (10, .fp s_lneeds), (21, .fq s_ints), (13, .fq s_ldone), (25, .fp s_lstep), (27, .fp s_rlstep), (20, .fq s_lsame), (7, .pu s_llive)]) hmix (TabOk.cons (e := .fp s_lnew) ok_lnew (TabOk.cons (e := .fp s_rlnew) ok_rlnew (TabOk.cons (e := .fp s_lplan) ok_lplan (TabOk.cons (e := .fp s_rlneed) ok_rlneed (TabOk.cons (e := .fp s_lneeds) ok_lneeds (TabOk.cons (e := .fq s_ints) ok_ints (TabOk.cons (e := .fq s_ldone) ok_ldone (TabOk.cons (e := .fp s_lstep) ok_lstep (TabOk.cons (e := .fp s_rlstep) ok_rlstep (TabOk.cons (e := .fq s_lsame) ok_lsame (TabOk.cons (e := .pu s_llive) ok_llive TabOk.nil))))))))))) Try.func5 rfl Try.results5 Try.ntmps5 (by kernel_rfl) (by kernel_rfl) ?_
  intro args H v h hargs hH
  unfold s_ljobs at h
  split at h <;> try (simp at h; done)
  rename_i x y z
  split at h <;> try (simp at h; done)
  rename_i A B P hA hB hP
  split at h <;> try (simp at h; done)
  rename_i hl
  obtain ⟨la, lb, lp⟩ := hl
  simp only [Option.some.injEq] at h
  subst h
  refine ⟨by simp only [List.length_cons, List.length_nil]; decide, rfl, ?_⟩
  simp only [List.all_cons, AV.bel, Bool.and_eq_true] at hargs
  obtain ⟨bx, by', bz, _⟩ := hargs
  have xl : ∀ e, lenB (.sl e) (.c x) = some (.c (.i A.length)) := by
    intro e
    rcases slD_inv dcI_d hA with ⟨rfl, rfl⟩ | ⟨id, v, rfl, _⟩ <;> rfl
  have xs : (lenB (.sl 0) (.c x)).isSome = true := by rw [xl]; rfl
  have yl : ∀ e, lenB (.sl e) (.c y) = some (.c (.i B.length)) := by
    intro e
    rcases slD_inv dcI_d hB with ⟨rfl, rfl⟩ | ⟨id, v, rfl, _⟩ <;> rfl
  have ys : (lenB (.sl 0) (.c y)).isSome = true := by rw [yl]; rfl
  have zl : ∀ e, lenB (.sl e) (.c z) = some (.c (.i P.length)) := by
    intro e
    rcases slD_inv dcB_d hP with ⟨rfl, rfl⟩ | ⟨id, v, rfl, _⟩ <;> rfl
  have zs : (lenB (.sl 0) (.c z)).isSome = true := by rw [zl]; rfl
  by_cases c1 : 12 < A.length
  · have c1' := eq_true (show (12 : Int) < A.length by omega)
    (try simp (config := { maxSteps := 10000000 }) only [go_sem, seval, xl, xs, as_len_y, c1', s_llive_eq]; repeat (simp (disch := omega) only [w64_d, ipos, ineg, dpos, dneg]; try simp (config := { maxSteps := 10000000 }) only [go_sem, seval, xl, xs, as_len_y, c1', s_llive_eq]))
    exact subH_refl _
  have c1' : ¬ ((12 : Int) < A.length) := by omega
  by_cases c2 : 12 < B.length
  · have c2' := eq_true (show (12 : Int) < B.length by omega)
    (try simp (config := { maxSteps := 10000000 }) only [go_sem, seval, xl, xs, yl, ys, as_len_y, c1', c2', s_llive_eq]; repeat (simp (disch := omega) only [w64_d, ipos, ineg, dpos, dneg]; try simp (config := { maxSteps := 10000000 }) only [go_sem, seval, xl, xs, yl, ys, as_len_y, c1', c2', s_llive_eq]))
    exact subH_refl _
  have c2' : ¬ ((12 : Int) < B.length) := by omega
  by_cases c3 : 80 < P.length
  · have c3' := eq_true (show (80 : Int) < P.length by omega)
    (try simp (config := { maxSteps := 10000000 }) only [go_sem, seval, xl, xs, yl, ys, zl, zs, as_len_y, c1', c2', c3', s_llive_eq]; repeat (simp (disch := omega) only [w64_d, ipos, ineg, dpos, dneg]; try simp (config := { maxSteps := 10000000 }) only [go_sem, seval, xl, xs, yl, ys, zl, zs, as_len_y, c1', c2', c3', s_llive_eq]))
    exact subH_refl _
  have c3' : ¬ ((80 : Int) < P.length) := by omega
  have na := (nN_spec A).2.2
  have nb := (nN_spec B).2.2
  have nw : ∀ K : AH, s_lnew [.c (.i 9)] K = some (.t [.c (.p (K.length + 1) 0 0), .c (.i 0)], K ++ [.map 0 [], .own [.i 9, .mp K.length]]) := fun K => rfl
  have rn : ∀ K : AH, s_rlnew [.c (.i 9)] K = some (.c (.sl K.length 0 18 9), K ++ [.vec 2 ((yN 9).flatMap lyC)]) := fun K => rfl
  have pl1 := fun X => s_lplan_eq (slD_app hA bx X) (by omega)
  have pl2 := fun X => s_lplan_eq (slD_app hB by' X) (by omega)
  have nd1 := fun X => s_rlneed_eq (slD_app hA bx X) (by omega) (Sc.bel_mono bx (by simp))
  have nd2 := fun X => s_rlneed_eq (slD_app hB by' X) (by omega) (Sc.bel_mono by' (by simp))
  simp only [List.length_append] at pl1 pl2 nd1 nd2
  have z8 : (18 : Nat) = 2 * 9 := rfl
  (try simp (config := { maxSteps := 10000000 }) only [go_sem, seval, xl, xs, yl, ys, zl, zs, as_len_y, c1', c2', c3', nw, rn, pl1, pl2, nd1, nd2]; repeat (simp (disch := omega) only [w64_d, ipos, ineg, dpos, dneg]; try simp (config := { maxSteps := 10000000 }) only [go_sem, seval, xl, xs, yl, ys, zl, zs, as_len_y, c1', c2', c3', nw, rn, pl1, pl2, nd1, nd2]))
  have I0 := JI.new hH (A := A) (B := B)
  rw [arun_loop]
  refine ⟨{s : Nat × AH × Ld × List Ly × Nat × Nat // s.1 ≤ P.length ∧ JI H s.2.1 s.2.2.1 s.2.2.2.1 A B s.2.2.2.2.1 s.2.2.2.2.2}, fun s => ([(2, .c z), (7, .c (.p (H.length + 1) 0 0)), (9, .c (.sl (H.length + 2) 0 18 9)), (10, .c (.p (H.length + 7) 0 0)), (11, .c (.p (H.length + 10) 0 0)), (12, .c (.i s.1.1))], s.1.2.1), fun s => P.length - s.1.1,
    ⟨(0, _, _, _, 0, 0), by omega, I0⟩, wkFL (by simp [Am.get]), ?_⟩
  rintro ⟨⟨k, K, D, Y, s1, s2⟩, hk, I⟩
  simp only at hk I
  by_cases hlt : k < P.length
  rotate_left
  · obtain rfl : k = P.length := by omega
    have kI : ¬ ((P.length : Int) < P.length) := by omega
    (try simp (config := { maxSteps := 10000000 }) only [go_sem, seval, zl, zs, as_len_y, kI, s_llive_eq]; repeat (simp (disch := omega) only [w64_d, ipos, ineg, dpos, dneg]; try simp (config := { maxSteps := 10000000 }) only [go_sem, seval, zl, zs, as_len_y, kI, s_llive_eq]))
    exact subH_ofL I.lp.len I.lp.old
  have kI : (k : Int) < P.length := by omega
  have k0 : (0 : Int) ≤ (k : Int) := by omega
  have E1 : w64 ((k : Int) + 1) = ((k + 1 : Nat) : Int) := by rw [w64_d (by omega) (by omega)]; omega
  rcases slD_inv dcB_d hP with ⟨rfl, rfl⟩ | ⟨zi, zv, rfl, hzv, hzc⟩
  · simp at hlt
  have lzi : zi < H.length := by simpa [Sc.bel] using bz
  obtain ⟨q, hq⟩ : ∃ q, P[k]? = some q := ⟨_, List.getElem?_eq_getElem hlt⟩
  have z0 : (hg K zi).cells.getD k .any = .b q := by rw [I.lp.old zi lzi, hzc]; exact fm1 (g := Sc.b) (fun _ => rfl) hq
  have z1 : k + 1 ≤ (hg K zi).cells.length := by
    rw [I.lp.old zi lzi, hzc]
    have := fm_le encB_l (L := P) (k := k) hlt
    omega
  have z2 : (hg K zi).row = zv := by rw [I.lp.old zi lzi, hzv]
  have yln := I.ylen
  cases q with
  | false =>
    obtain ⟨K3, K4, E, a1, a2, a3, a4, a5, a6, a7, a8, a9⟩ := I.round0 (by omega)
    have qX := (show hg (K ++ [AObj.vec 1 ((nN A).flatMap encI)]) (H.length + 10) = hg K (H.length + 10) from hg_lt' (by have := I.len; omega)).trans I.qj
    obtain ⟨Z, I9⟩ := a9 [.own [.sl (H.length + 8) 0 (nN A).length (nN A).length, .i (stN D.S 0 (nN A) s1 : Nat)]]
    have sm := I9.lp.same
    unfold xV at sm
    rw [I9.ylen] at sm
    have e2n : w64 (2 * ((nN A).length : Int)) = 2 * ((nN A).length : Int) := w64_d (by omega) (by omega)
    by_cases c4 : 2 * (nN A).length < s1
    · have c5 : ¬ (s1 = (nN A).length) := by omega
      have c4' := eq_true (show (2 * ((nN A).length : Int) < (s1 : Int)) by omega)
      rw [decide_eq_true c4] at a3
      rw [decide_eq_false c5] at a5
      simp only [if_neg c5] at a8
      (try simp (config := { maxSteps := 10000000 }) only [go_sem, seval, zl, kI, k0, z0, z1, z2, a1, a2, a3, qX, e2n, c4', a4, a5, a6, a7, a8, sm, E1, Int.toNat_natCast]; repeat (simp (disch := omega) only [w64_d, ipos, ineg, dpos, dneg]; try simp (config := { maxSteps := 10000000 }) only [go_sem, seval, zl, kI, k0, z0, z1, z2, a1, a2, a3, qX, e2n, c4', a4, a5, a6, a7, a8, sm, E1, Int.toNat_natCast]))
      (repeat' first | apply And.intro | (exact fun c => absurd ⟨I.qj.symm, by rw [I.qj]; rfl⟩ c) | (intro _; kernel_rfl) | kernel_rfl)
      exact ⟨⟨(k + 1, _, E, Z, _, _), by simp only; omega, I9⟩, by simp only; omega, wkFL (by simp [Am.get])⟩
    · have c4' : ¬ (2 * ((nN A).length : Int) < (s1 : Int)) := by omega
      rw [decide_eq_false c4] at a3
      by_cases c5 : s1 = (nN A).length
      · rw [decide_eq_true c5] at a5
        simp only [if_pos c5] at a8
        (try simp (config := { maxSteps := 10000000 }) only [go_sem, seval, zl, kI, k0, z0, z1, z2, a1, a2, a3, qX, e2n, c4', a4, a5, a6, a7, a8, sm, E1, Int.toNat_natCast]; repeat (simp (disch := omega) only [w64_d, ipos, ineg, dpos, dneg]; try simp (config := { maxSteps := 10000000 }) only [go_sem, seval, zl, kI, k0, z0, z1, z2, a1, a2, a3, qX, e2n, c4', a4, a5, a6, a7, a8, sm, E1, Int.toNat_natCast]))
        (repeat' first | apply And.intro | (exact fun c => absurd ⟨I.qj.symm, by rw [I.qj]; rfl⟩ c) | (intro _; kernel_rfl) | kernel_rfl)
        exact ⟨⟨(k + 1, _, E, Z, _, _), by simp only; omega, I9⟩, by simp only; omega, wkFL (by simp [Am.get])⟩
      · rw [decide_eq_false c5] at a5
        simp only [if_neg c5] at a8
        (try simp (config := { maxSteps := 10000000 }) only [go_sem, seval, zl, kI, k0, z0, z1, z2, a1, a2, a3, qX, e2n, c4', a4, a5, a6, a7, a8, sm, E1, Int.toNat_natCast]; repeat (simp (disch := omega) only [w64_d, ipos, ineg, dpos, dneg]; try simp (config := { maxSteps := 10000000 }) only [go_sem, seval, zl, kI, k0, z0, z1, z2, a1, a2, a3, qX, e2n, c4', a4, a5, a6, a7, a8, sm, E1, Int.toNat_natCast]))
        (repeat' first | apply And.intro | (exact fun c => absurd ⟨I.qj.symm, by rw [I.qj]; rfl⟩ c) | (intro _; kernel_rfl) | kernel_rfl)
        exact ⟨⟨(k + 1, _, E, Z, _, _), by simp only; omega, I9⟩, by simp only; omega, wkFL (by simp [Am.get])⟩
  | true =>
    obtain ⟨K3, K4, E, a1, a2, a3, a4, a5, a6, a7, a8, a9⟩ := I.round1 (by omega)
    have qX := (show hg (K ++ [AObj.vec 1 ((nN B).flatMap encI)]) (H.length + 10) = hg K (H.length + 10) from hg_lt' (by have := I.len; omega)).trans I.qj
    obtain ⟨Z, I9⟩ := a9 [.own [.sl (H.length + 9) 0 (nN B).length (nN B).length, .i (stN D.S 1 (nN B) s2 : Nat)]]
    have sm := I9.lp.same
    unfold xV at sm
    rw [I9.ylen] at sm
    have e2n : w64 (2 * ((nN B).length : Int)) = 2 * ((nN B).length : Int) := w64_d (by omega) (by omega)
    by_cases c4 : 2 * (nN B).length < s2
    · have c5 : ¬ (s2 = (nN B).length) := by omega
      have c4' := eq_true (show (2 * ((nN B).length : Int) < (s2 : Int)) by omega)
      rw [decide_eq_true c4] at a3
      rw [decide_eq_false c5] at a5
      simp only [if_neg c5] at a8
      (try simp (config := { maxSteps := 10000000 }) only [go_sem, seval, zl, kI, k0, z0, z1, z2, a1, a2, a3, qX, e2n, c4', a4, a5, a6, a7, a8, sm, E1, Int.toNat_natCast]; repeat (simp (disch := omega) only [w64_d, ipos, ineg, dpos, dneg]; try simp (config := { maxSteps := 10000000 }) only [go_sem, seval, zl, kI, k0, z0, z1, z2, a1, a2, a3, qX, e2n, c4', a4, a5, a6, a7, a8, sm, E1, Int.toNat_natCast]))
      (repeat' first | apply And.intro | (exact fun c => absurd ⟨I.qj.symm, by rw [I.qj]; rfl⟩ c) | (intro _; kernel_rfl) | kernel_rfl)
      exact ⟨⟨(k + 1, _, E, Z, _, _), by simp only; omega, I9⟩, by simp only; omega, wkFL (by simp [Am.get])⟩
    · have c4' : ¬ (2 * ((nN B).length : Int) < (s2 : Int)) := by omega
      rw [decide_eq_false c4] at a3
      by_cases c5 : s2 = (nN B).length
      · rw [decide_eq_true c5] at a5
        simp only [if_pos c5] at a8
        (try simp (config := { maxSteps := 10000000 }) only [go_sem, seval, zl, kI, k0, z0, z1, z2, a1, a2, a3, qX, e2n, c4', a4, a5, a6, a7, a8, sm, E1, Int.toNat_natCast]; repeat (simp (disch := omega) only [w64_d, ipos, ineg, dpos, dneg]; try simp (config := { maxSteps := 10000000 }) only [go_sem, seval, zl, kI, k0, z0, z1, z2, a1, a2, a3, qX, e2n, c4', a4, a5, a6, a7, a8, sm, E1, Int.toNat_natCast]))
        (repeat' first | apply And.intro | (exact fun c => absurd ⟨I.qj.symm, by rw [I.qj]; rfl⟩ c) | (intro _; kernel_rfl) | kernel_rfl)
        exact ⟨⟨(k + 1, _, E, Z, _, _), by simp only; omega, I9⟩, by simp only; omega, wkFL (by simp [Am.get])⟩
      · rw [decide_eq_false c5] at a5
        simp only [if_neg c5] at a8
        (try simp (config := { maxSteps := 10000000 }) only [go_sem, seval, zl, kI, k0, z0, z1, z2, a1, a2, a3, qX, e2n, c4', a4, a5, a6, a7, a8, sm, E1, Int.toNat_natCast]; repeat (simp (disch := omega) only [w64_d, ipos, ineg, dpos, dneg]; try simp (config := { maxSteps := 10000000 }) only [go_sem, seval, zl, kI, k0, z0, z1, z2, a1, a2, a3, qX, e2n, c4', a4, a5, a6, a7, a8, sm, E1, Int.toNat_natCast]))
        (repeat' first | apply And.intro | (exact fun c => absurd ⟨I.qj.symm, by rw [I.qj]; rfl⟩ c) | (intro _; kernel_rfl) | kernel_rfl)
        exact ⟨⟨(k + 1, _, E, Z, _, _), by simp only; omega, I9⟩, by simp only; omega, wkFL (by simp [Am.get])⟩
theorem sig_ljobs (avs : List AV) (H : AH) (h : SigA [.sl [.n .i64], .sl [.n .i64], .sl [.q]] avs H) : s_ljobs avs H = some (.c (.b true)) := by
  have dec : ∀ cs, L2 FitK cs [.n .i64] → ∃ x : Int, cs = encI x ∧ True := fun cs gg => by
    obtain ⟨s1, l1, rfl, q1, g0⟩ := fit_cons gg
    obtain ⟨a, rfl, _, _⟩ := fk_i q1
    obtain rfl := fit_nil g0
    exact ⟨a, rfl, trivial⟩
  have deb : ∀ cs, L2 FitK cs [.q] → ∃ x : Bool, cs = encB x ∧ True := fun cs gg => by
    obtain ⟨s1, l1, rfl, q1, g0⟩ := fit_cons gg
    obtain ⟨a, rfl⟩ := fk_q q1
    obtain rfl := fit_nil g0
    exact ⟨a, rfl, trivial⟩
  obtain ⟨x, r1, rfl, h1, A, hA, _, nA⟩ := sig_row (f := encI) (w := 1) (dc := dcI) (p := fun _ => True) dec encI_l dcI_e h
  obtain ⟨y, r2, rfl, h2, B, hB, _, nB⟩ := sig_row (f := encI) (w := 1) (dc := dcI) (p := fun _ => True) dec encI_l dcI_e h1
  obtain ⟨z, r3, rfl, h3, P, hP, _, nP⟩ := sig_row (f := encB) (w := 1) (dc := dcB) (p := fun _ => True) deb encB_l dcB_e h2
  obtain rfl := sig_nil h3
  simp only [s_ljobs, hA, hB, hP]
  rw [if_pos ⟨nA, nB, nP⟩]
end
end
end Go.Proofs.Ythfccacopffkgaa
