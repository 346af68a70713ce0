/- Layer 12: what must be whatever is asked; locks that aren't there: contracts. -/
import Derived.Test.YthfccacopffkgaaLkD
namespace Go.Proofs.Ythfccacopffkgaa
open Go.Am
set_option linter.unusedSimpArgs false
set_option linter.unusedVariables false
noncomputable section
set_option maxRecDepth 100000

theorem dd_le {A : List Int} : (ddp A).length ≤ A.length := ddN_le
theorem cmp_len (A : List Int) : (cmpCI (srt ltI A)).length = A.length := by
  have h1 : (srt ltI A).length = A.length := srt_len
  have h2 := dd_le (A := srt ltI A)
  unfold cmpCI
  rw [List.length_append, List.length_map, List.length_replicate]
  omega
/-- what a plan needs, read -/
theorem slP_plan {H : AH} {id : Nat} {A : List Int} (h : hg H id = .vec 1 (cmpCI (srt ltI A))) : slP dcI H (.sl id 0 A.length (nN A).length) = some (nN A) := by
  have h1 : (srt ltI A).length = A.length := srt_len
  have h2 := dd_le (A := srt ltI A)
  refine slP_of (g := gI) (fun _ => rfl) (by rw [h]; simp only [AObj.row]; rw [cmp_len]) rfl ?_ ?_
  · rw [h]; simp only [AObj.cells]; rw [cmp_len]; show (ddp (srt ltI A)).length ≤ _; omega
  · rw [h]
    simp only [AObj.cells]
    unfold cmpCI nN
    rw [List.take_append_of_le_length (by rw [List.length_map]; exact Nat.le_refl _), List.take_of_length_le (by rw [List.length_map]; exact Nat.le_refl _)]
def SS4 : LS := [(1, [0]), (0, [1])]
def BB4 : List Bool := [true, true, false, false, false, false, false, false]
theorem gfp4 : Gfp SS4 BB4 := by
  refine ⟨rfl, ?_, ?_⟩
  · intro k hk hb
    have : k = 0 ∨ k = 1 := by
      have h8 : k = 0 ∨ k = 1 ∨ k = 2 ∨ k = 3 ∨ k = 4 ∨ k = 5 ∨ k = 6 ∨ k = 7 := by omega
      rcases h8 with rfl | rfl | rfl | rfl | rfl | rfl | rfl | rfl <;> first | (left; rfl) | (right; rfl) | (simp [atB, BB4] at hb)
    rcases this with rfl | rfl <;> decide
  · intro C hC hc k hk hb
    have := hc k hk hb
    have : k = 0 ∨ k = 1 := by
      simp only [wtP, SS4, List.any_cons, List.any_nil, Bool.or_false, Bool.or_eq_true, Bool.and_eq_true, decide_eq_true_eq, List.mem_singleton] at this
      omega
    rcases this with rfl | rfl <;> rfl
theorem live_run : ∃ (H1 H2 H3 H4 H5 : AH) (x : Sc) (p : Nat),
    s_lnew [.c (.i 2)] [] = some (.t [.c (.p 1 0 0), .c (.i 0)], [.map 0 [], .own [.i 2, .mp 0]]) ∧
    s_ltake [.c (.p 1 0 0), .c (.i 0), .c (.i 1)] [.map 0 [], .own [.i 2, .mp 0]] = some (.c (.b true), H1) ∧ s_ltake [.c (.p 1 0 0), .c (.i 1), .c (.i 1)] H1 = some (.c (.b false), H2) ∧
    s_ltake [.c (.p 1 0 0), .c (.i 1), .c (.i 0)] H2 = some (.c (.b true), H3) ∧ s_ltake [.c (.p 1 0 0), .c (.i 0), .c (.i 0)] H3 = some (.c (.b false), H4) ∧ s_lstk [.c (.p 1 0 0)] H4 = some (.c x, H5) ∧ isx H5 x [0, 1] := by
  obtain ⟨n1, n2⟩ := LI.new (H := []) (n := 2) (by decide) (by decide)
  simp only [List.length_nil, List.nil_append, Nat.zero_add] at n1 n2
  obtain ⟨H1, h1, _, D1, a1, b1, c1⟩ := s_ltake_ex n1 0 1
  rw [n2] at h1 c1
  obtain ⟨H2, h2, _, D2, a2, b2, c2⟩ := s_ltake_ex a1 1 1
  rw [c1] at h2 c2
  obtain ⟨H3, h3, _, D3, a3, b3, c3⟩ := s_ltake_ex a2 1 0
  rw [c2] at h3 c3
  obtain ⟨H4, h4, _, D4, a4, b4, c4⟩ := s_ltake_ex a3 0 0
  rw [c3] at h4 c4
  obtain ⟨v, H5, h5, _, B, hB, ⟨x, rfl, hx, _⟩, _⟩ := s_lstk_ex a4
  have p1 : D1.p = 1 := b1.p
  have p2 : D2.p = 1 := b2.p.trans p1
  have p3 : D3.p = 1 := b3.p.trans p2
  have p4 : D4.p = 1 := b4.p.trans p3
  have e4 : D4.S = SS4 := c4
  rw [e4] at hB
  rw [gfp_uniq hB gfp4] at hx
  rw [p1] at h2
  rw [p2] at h3
  rw [p3] at h4
  rw [p4] at h5
  exact ⟨H1, H2, H3, H4, H5, x, 0, rfl, h1, h2, h3, h4, h5, hx⟩
def s_llive (args : List AV) : Option AV :=
  match args with
  | [] => some (.c (.b true))
  | _ => none
theorem s_llive_eq : s_llive [] = some (.c (.b true)) := rfl
set_option maxRecDepth 100000 in
set_option maxHeartbeats 2000000 in
theorem ok_llive : PuOk Try.prog 7 s_llive := by
  refine pu_ok (tab := [(8, .fp s_lnew), (18, .fp s_ltake), (12, .fp s_lstk), (9, .fp s_lplan), (10, .fp s_lneeds)]) hmix (TabOk.cons (e := .fp s_lnew) ok_lnew (TabOk.cons (e := .fp s_ltake) ok_ltake (TabOk.cons (e := .fp s_lstk) ok_lstk (TabOk.cons (e := .fp s_lplan) ok_lplan (TabOk.cons (e := .fp s_lneeds) ok_lneeds TabOk.nil))))) Try.func7 rfl Try.results7 Try.ntmps7 (by kernel_rfl) (by kernel_rfl) ?_
  intro args v h
  unfold s_llive at h
  split at h
  · simp only [Option.some.injEq] at h; subst h
    refine ⟨by simp only [List.length_cons, List.length_nil]; decide, rfl, rfl, ?_⟩
    obtain ⟨H1, H2, H3, H4, H5, x, _, h0, h1, h2, h3, h4, h5, hx⟩ := live_run
    have xl := slP_len (isx_sp hx)
    have xs := slP_isS (isx_sp hx)
    have sl : slD 1 dcI (H5 ++ [AObj.vec 1 [.i 3, .i 1]]) (.sl H5.length 0 2 2) = some [3, 1] := slD_of (f := encI) encI_l dcI_e (by rw [hg_len]; rfl) rfl (by rw [hg_len]; rfl)
    have pl := s_lplan_eq sl (by decide)
    rw [show (H5 ++ [AObj.vec 1 [.i 3, .i 1]]).length = H5.length + 1 by simp] at pl
    rcases hx with ⟨rfl, hn⟩ | ⟨i, rfl, hi⟩
    · simp at hn
    have li : i < H5.length := hg_lt (by rw [hi]; rfl)
    have hiX : ∀ X, hg (H5 ++ X) i = .vec 1 [.i 0, .i 1] := fun X => by rw [hg_lt' li, hi]; rfl
    have nn : (nN [3, 1]).length = 2 := by decide
    have hj : ∀ X, jbA (H5 ++ (AObj.vec 1 [.i 3, .i 1] :: AObj.own [.sl (H5.length + 1 + 1) 0 2 2, .i 0, .b false, .i 0] :: AObj.vec 1 (cmpCI (srt ltI [3, 1])) :: X)) (H5.length + 1) 0 = some (.sl (H5.length + 1 + 1) 0 2 2, 0, false, 0) := fun X => jbA_own (A := []) (B := []) (by rw [hg_len_add]; rfl) rfl
    have hj3 : jbA (H5 ++ [AObj.vec 1 [.i 3, .i 1], AObj.own [.sl (H5.length + 1 + 1) 0 2 2, .i 0, .b false, .i 0], AObj.vec 1 (cmpCI (srt ltI [3, 1])), AObj.own [.sl (H5.length + 1 + 1) 0 2 2, .i 0, .b false, .i 0]]) (H5.length + 3) 0 = some (.sl (H5.length + 1 + 1) 0 2 2, 0, false, 0) := jbA_own (A := []) (B := []) (by rw [hg_len_add]; rfl) rfl
    have hs3 := slP_plan (H := H5 ++ [AObj.vec 1 [.i 3, .i 1], AObj.own [.sl (H5.length + 1 + 1) 0 2 2, .i 0, .b false, .i 0], AObj.vec 1 (cmpCI (srt ltI [3, 1])), AObj.own [.sl (H5.length + 1 + 1) 0 2 2, .i 0, .b false, .i 0]]) (id := H5.length + 1 + 1) (A := [3, 1]) (by rw [show H5.length + 1 + 1 = H5.length + 2 by omega, hg_len_add]; rfl)
    rw [nn] at hs3
    have ln := s_lneeds_eq hj3 hs3 (by rw [nn]; decide)
    rw [nn] at ln
    rw [nn] at pl
    (try simp (config := { maxSteps := 10000000 }) only [go_sem, seval, h0, h1, h2, h3, h4, h5, pl, hiX, ln]; repeat (simp (disch := omega) only [w64_d, ipos, ineg, dpos, dneg]; try simp (config := { maxSteps := 10000000 }) only [go_sem, seval, h0, h1, h2, h3, h4, h5, pl, hiX, ln]))
  · simp at h
def s_lclon (args : List AV) (H : AH) : Option AV :=
  match args with
  | [.c .nilp] => some (.c .nilp)
  | _ => none
set_option maxRecDepth 100000 in
set_option maxHeartbeats 2000000 in
theorem ok_lclon : FpOk Try.prog 23 (fun args H => (s_lclon args H).map fun v => (v, H)) := by
  refine fq_ok (s := s_lclon) (tab := [(32, .fp s_lclone)]) hmix (TabOk.cons (e := .fp s_lclone) ok_lclone TabOk.nil) Try.func23 rfl Try.results23 Try.ntmps23 (by kernel_rfl) (by kernel_rfl) ?_
  intro args H v h hargs hH
  unfold s_lclon at h
  split at h
  · simp only [Option.some.injEq] at h
    subst h
    refine ⟨by simp only [List.length_cons, List.length_nil]; decide, rfl, ?_⟩
    (try simp (config := { maxSteps := 10000000 }) only [go_sem, seval]; repeat (simp (disch := omega) only [w64_d, ipos, ineg, dpos, dneg]; try simp (config := { maxSteps := 10000000 }) only [go_sem, seval]))
    exact subH_refl _
  · simp at h
def s_lnone (args : List AV) : Option AV :=
  match args with
  | [.c (.i w), .c (.i a)] => some (.c (.b true))
  | _ => none
theorem s_lnone_eq {w a} : s_lnone [.c (.i w), .c (.i a)] = some (.c (.b true)) := rfl
set_option maxRecDepth 100000 in
set_option maxHeartbeats 2000000 in
theorem ok_lnone : PuOk Try.prog 6 s_lnone := by
  refine pu_ok (tab := [(28, .fq s_lholder), (29, .fq s_lwaits), (18, .fp s_ltake), (16, .fp s_ldrop), (30, .fp s_lqueue), (14, .fp s_lheld), (12, .fp s_lstk), (23, .fq s_lclon), (10, .fp s_lneeds), (13, .fq s_ldone), (25, .fp s_lstep), (7, .pu s_llive)]) hmix (TabOk.cons (e := .fq s_lholder) ok_lholder (TabOk.cons (e := .fq s_lwaits) ok_lwaits (TabOk.cons (e := .fp s_ltake) ok_ltake (TabOk.cons (e := .fp s_ldrop) ok_ldrop (TabOk.cons (e := .fp s_lqueue) ok_lqueue (TabOk.cons (e := .fp s_lheld) ok_lheld (TabOk.cons (e := .fp s_lstk) ok_lstk (TabOk.cons (e := .fq s_lclon) ok_lclon (TabOk.cons (e := .fp s_lneeds) ok_lneeds (TabOk.cons (e := .fq s_ldone) ok_ldone (TabOk.cons (e := .fp s_lstep) ok_lstep (TabOk.cons (e := .pu s_llive) ok_llive TabOk.nil)))))))))))) Try.func6 rfl Try.results6 Try.ntmps6 (by kernel_rfl) (by kernel_rfl) ?_
  intro args v h
  unfold s_lnone at h
  split at h
  · rename_i w a
    simp only [Option.some.injEq] at h; subst h
    refine ⟨by simp only [List.length_cons, List.length_nil]; decide, rfl, rfl, ?_⟩
    have a1 := fun H => s_lholder_nil (H := H) (a := a)
    have a2 := fun H => s_lwaits_nil (H := H) (a := w)
    have a3 := fun H => s_ltake_nil (H := H) (w := w) (a := a)
    have a4 := fun H => s_ldrop_nil (H := H) (w := w) (a := a)
    have a5 := fun H => s_lqueue_nil (H := H) (a := a)
    have a6 := fun H => s_lheld_nil (H := H) (a := w)
    have a7 := fun H => s_lstk_nil (H := H)
    have a8 : ∀ H, s_lclon [.c .nilp] H = some (.c .nilp) := fun H => rfl
    have a9 : ∀ H, s_lneeds [.c .nilp] H = some (.c .nils, H) := fun H => rfl
    have b1 : ∀ H, s_ldone [.c .nilp] H = some (.c (.b true)) := fun H => rfl
    have b2 : ∀ f c H, s_lstep [.c .nilp, .c .nilp, .c (.i w), .c (.f f c)] H = some (.c (.i 4), H) := fun f c H => rfl
    simp (config := { implicitDefEqProofs := false }) only [go_sem, seval, a1, a2, a3, a4, a5, a6, a7, a8, a9, b1, b2, s_llive_eq]
  · simp at h
end
end Go.Proofs.Ythfccacopffkgaa
