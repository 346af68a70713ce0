/- Layer 12: jobs: contracts. -/
import Derived.Test.YthfccacopffkgaaLkA
namespace Go.Proofs.Ythfccacopffkgaa
open Go.Am
set_option linter.unusedSimpArgs false
set_option linter.unusedVariables false
noncomputable section
set_option maxRecDepth 100000

section
variable {H : AH}
/-! ### lists that are read, and copied -/
theorem clone_slD {x : Sc} {A : List Int} (h : slD 1 dcI H x = some A) (hs : A.length ≤ 1000000) : cloneI H x = some (.sl H.length 0 A.length A.length, H ++ [.vec 1 (A.flatMap encI)]) := by
  rcases slD_inv dcI_d h with ⟨rfl, rfl⟩ | ⟨id, v, rfl, hv, hc⟩
  · rfl
  · have l : (A.flatMap encI).length = A.length := by rw [fm_len encI_l, Nat.mul_one]
    have e : (A.flatMap encI).take A.length = A.flatMap encI := List.take_of_length_le (by omega)
    simp only [cloneI, hc, List.drop_zero, e, l]
    rw [if_pos ⟨hv, by omega, encI_one A, hs⟩]
theorem clone_slP {x : Sc} {A : List Int} (h : slP dcI H x = some A) (hs : A.length ≤ 1000000) : cloneI H x = some (.sl H.length 0 A.length A.length, H ++ [.vec 1 (A.flatMap encI)]) := by
  rcases slP_inv gI_d h with ⟨rfl, rfl⟩ | ⟨id, v, rfl, hv, hl, hc⟩
  · rfl
  · have e := encI_gI A
    simp only [cloneI, List.drop_zero, hc, ← e]
    rw [if_pos ⟨hv, by omega, encI_one A, hs⟩]
theorem slP_len {x : Sc} {A : List Int} (h : slP dcI H x = some A) : ∀ t, lenB (.sl t) (.c x) = some (.c (.i A.length)) := by
  intro t
  rcases slP_inv gI_d h with ⟨rfl, rfl⟩ | ⟨id, v, rfl, _⟩ <;> rfl
theorem slP_isS {x : Sc} {A : List Int} (h : slP dcI H x = some A) : (lenB (.sl 0) (.c x)).isSome = true := by rw [slP_len h]; rfl
theorem slD_app {x : Sc} {A : List Int} (h : slD 1 dcI H x = some A) (hb : x.bel H.length = true) (X : AH) : slD 1 dcI (H ++ X) x = some A := by
  rcases slD_inv dcI_d h with ⟨rfl, rfl⟩ | ⟨id, v, rfl, hv, hc⟩
  · rfl
  · have hi : id < H.length := by simpa [Sc.bel] using hb
    refine slD_of encI_l dcI_e (by rw [hg_lt' hi]; exact hv) rfl (by rw [hg_lt' hi]; exact hc)
theorem slP_frame {K : AH} {x : Sc} {A : List Int} (h : slP dcI H x = some A) (hk : ∀ i, sidI x = some i → hg K i = hg H i) : slP dcI K x = some A := by
  unfold slP at h ⊢
  split at h
  · exact h
  · rename_i id v n
    rw [hk id rfl]
    exact h
  · simp at h
/-! ### a plan -/
def nN (A : List Int) : List Int := ddp (srt ltI A)
def s_lplan (args : List AV) (H : AH) : Option (AV × AH) :=
  match args with
  | [.c x] =>
    match slD 1 dcI H x with
    | some A => if A.length ≤ 12 then some (.g [.sl (H.length + 1) 0 A.length (nN A).length, .i 0, .b false, .i 0], H ++ [.own [.sl (H.length + 1) 0 A.length (nN A).length, .i 0, .b false, .i 0], .vec 1 (cmpCI (srt ltI A))]) else none
    | none => none
  | _ => none
theorem s_lplan_eq {x : Sc} {A : List Int} (h : slD 1 dcI H x = some A) (hl : A.length ≤ 12) : s_lplan [.c x] H = some (.g [.sl (H.length + 1) 0 A.length (nN A).length, .i 0, .b false, .i 0], H ++ [.own [.sl (H.length + 1) 0 A.length (nN A).length, .i 0, .b false, .i 0], .vec 1 (cmpCI (srt ltI A))]) := by
  simp only [s_lplan, h]; rw [if_pos hl]
theorem len_lplan (args : List AV) (H : AH) (v : AV) (H1 : AH) (h : s_lplan args H = some (v, H1)) : H.length ≤ H1.length := by
  unfold s_lplan at h
  repeat' split at h
  all_goals simp at h
  rw [← h.2]; simp
set_option maxRecDepth 100000 in
set_option maxHeartbeats 2000000 in
theorem ok_lplan : FpOk Try.prog 9 s_lplan := by
  refine fp_ok (s := s_lplan) (tab := [(32, .fp s_lclone), (33, .fp s_sortI), (34, .fp s_cmpI)]) hmix (TabOk.cons (e := .fp s_lclone) ok_lclone (TabOk.cons (e := .fp s_sortI) ok_sortI (TabOk.cons (e := .fp s_cmpI) ok_cmpI TabOk.nil))) Try.func9 rfl Try.results9 Try.ntmps9 (by kernel_rfl) (by kernel_rfl) len_lplan ?_
  intro args H v H1 h hargs hH
  unfold s_lplan at h
  split at h
  · rename_i x
    split at h
    · rename_i A hA
      split at h
      · rename_i hl
        simp only [Option.some.injEq, Prod.mk.injEq] at h
        obtain ⟨rfl, rfl⟩ := h
        refine ⟨by simp only [List.length_cons, List.length_nil]; decide, ?_⟩
        have bx : x.bel H.length = true := by simpa [AV.bel] using hargs
        have c1 := fun Z : AObj => s_lclone_eq (clone_slD (slD_app hA bx [Z]) (by omega))
        have hv : ∀ Z : AObj, hg (H ++ [Z, .vec 1 (A.flatMap encI)]) (H.length + 1) = .vec 1 (A.map gI) := fun Z => by rw [hg_len_add, encI_gI]; rfl
        have c2 := fun Z => s_sortI_eq (vecD_of (dc := dcI) (fun _ => rfl) (hv Z) rfl rfl) hl
        have hv2 : ∀ Z : AObj, hg (H ++ [Z, .vec 1 ((srt ltI A).map gI)]) (H.length + 1) = .vec 1 ((srt ltI A).map gI) := fun Z => by rw [hg_len_add]; rfl
        have sl : (srt ltI A).length = A.length := srt_len
        have c3 := fun Z => s_cmpI_eq (vecD_of (dc := dcI) (fun _ => rfl) (hv2 Z) sl.symm sl.symm) (by omega)
        have c4 := fun Z => cmpI_sl (v := A.length) (n := A.length) (hv2 Z) (by simp) sl.symm
        have l1 : ∀ Z : AObj, (H ++ [Z]).length = H.length + 1 := fun Z => by simp
        simp only [l1] at c1
        simp only [putV, set_len_add, List.set_cons_succ, List.set_cons_zero] at c2
        simp only [c4, set_len_add, List.set_cons_succ, List.set_cons_zero] at c3
        simp only [List.append_assoc, List.cons_append, List.nil_append] at c1
        (try simp (config := { maxSteps := 10000000 }) only [go_sem, seval, c1, c2, c3]; repeat (simp (disch := omega) only [w64_d, ipos, ineg, dpos, dneg]; try simp (config := { maxSteps := 10000000 }) only [go_sem, seval, c1, c2, c3]))
        exact fin_same
      · simp at h
    · simp at h
  · simp at h
/-! ### what a job needs, and whether it is over -/
def jbA (H : AH) (id off : Nat) : Option (Sc × Int × Bool × Int) :=
  match hg H id with
  | .own cs =>
    match cs.drop off with
    | nx :: .i t :: .b d :: .i g :: _ => some (nx, t, d, g)
    | _ => none
  | _ => none
theorem jbA_inv {id off : Nat} {nx : Sc} {t g : Int} {d : Bool} (h : jbA H id off = some (nx, t, d, g)) : ∃ cs, hg H id = .own cs ∧ off + 4 ≤ cs.length ∧ cs.getD off .any = nx ∧ cs.getD (off + 1) .any = .i t ∧ cs.getD (off + 2) .any = .b d ∧ cs.getD (off + 3) .any = .i g := by
  unfold jbA at h
  split at h <;> try (simp at h; done)
  rename_i cs ho
  split at h <;> try (simp at h; done)
  rename_i a b c e r hd
  simp only [Option.some.injEq, Prod.mk.injEq] at h
  obtain ⟨rfl, rfl, rfl, rfl⟩ := h
  have hl := congrArg List.length hd
  simp only [List.length_drop, List.length_cons] at hl
  have gt : ∀ i, cs.getD (off + i) .any = (cs.drop off).getD i .any := fun i => by rw [List.getD_eq_getElem?_getD, List.getD_eq_getElem?_getD, List.getElem?_drop]
  refine ⟨cs, ho, by omega, ?_, ?_, ?_, ?_⟩
  · have := gt 0; rw [hd] at this; exact this
  · rw [gt, hd]; rfl
  · rw [gt, hd]; rfl
  · rw [gt, hd]; rfl
theorem jbA_own {id off : Nat} {A B : List Sc} {nx : Sc} {t g : Int} {d : Bool} (ho : hg H id = .own (A ++ (nx :: .i t :: .b d :: .i g :: B))) (hoff : off = A.length) : jbA H id off = some (nx, t, d, g) := by
  unfold jbA
  rw [ho, hoff]
  simp only [List.drop_left]
def s_lneeds (args : List AV) (H : AH) : Option (AV × AH) :=
  match args with
  | [.c .nilp] => some (.c .nils, H)
  | [.c (.p id off 0)] =>
    match jbA H id off with
    | some (nx, _, _, _) =>
      match slP dcI H nx with
      | some L => if L.length ≤ 1000000 then some (.c (.sl H.length 0 L.length L.length), H ++ [.vec 1 (L.flatMap encI)]) else none
      | none => none
    | none => none
  | _ => none
theorem s_lneeds_eq {id off : Nat} {nx : Sc} {t g : Int} {d : Bool} {L : List Int} (h : jbA H id off = some (nx, t, d, g)) (hL : slP dcI H nx = some L) (hl : L.length ≤ 1000000) : s_lneeds [.c (.p id off 0)] H = some (.c (.sl H.length 0 L.length L.length), H ++ [.vec 1 (L.flatMap encI)]) := by
  simp only [s_lneeds, h, hL, hl, if_true]
theorem len_lneeds (args : List AV) (H : AH) (v : AV) (H1 : AH) (h : s_lneeds args H = some (v, H1)) : H.length ≤ H1.length := by
  unfold s_lneeds at h
  repeat' split at h
  all_goals simp at h
  all_goals rw [← h.2]
  all_goals simp
set_option maxRecDepth 100000 in
set_option maxHeartbeats 2000000 in
theorem ok_lneeds : FpOk Try.prog 10 s_lneeds := by
  refine fp_ok (s := s_lneeds) (tab := [(32, .fp s_lclone)]) hmix (TabOk.cons (e := .fp s_lclone) ok_lclone TabOk.nil) Try.func10 rfl Try.results10 Try.ntmps10 (by kernel_rfl) (by kernel_rfl) len_lneeds ?_
  intro args H v H1 h hargs hH
  unfold s_lneeds at h
  split at h
  · simp only [Option.some.injEq, Prod.mk.injEq] at h
    obtain ⟨rfl, rfl⟩ := h
    refine ⟨by simp only [List.length_cons, List.length_nil]; decide, ?_⟩
    (try simp (config := { maxSteps := 10000000 }) only [go_sem, seval]; repeat (simp (disch := omega) only [w64_d, ipos, ineg, dpos, dneg]; try simp (config := { maxSteps := 10000000 }) only [go_sem, seval]))
    exact fin_same
  · rename_i id off
    split at h <;> try (simp at h; done)
    rename_i nx t d g hj
    split at h <;> try (simp at h; done)
    rename_i L hL
    split at h <;> try (simp at h; done)
    rename_i hl
    simp only [Option.some.injEq, Prod.mk.injEq] at h
    obtain ⟨rfl, rfl⟩ := h
    refine ⟨by simp only [List.length_cons, List.length_nil]; decide, ?_⟩
    obtain ⟨cs, ho, hle, g0, g1, g2, g3⟩ := jbA_inv hj
    have hc := s_lclone_eq (clone_slP hL hl)
    have k0 : off + 1 ≤ cs.length := by omega
    (try simp (config := { maxSteps := 10000000 }) only [go_sem, seval, ho, g0, k0, hc]; repeat (simp (disch := omega) only [w64_d, ipos, ineg, dpos, dneg]; try simp (config := { maxSteps := 10000000 }) only [go_sem, seval, ho, g0, k0, hc]))
    exact fin_same
  · simp at h
def dnJ (L : List Int) (d : Bool) (g : Int) : Bool := d && decide (g = L.length)
def s_ldone (args : List AV) (H : AH) : Option AV :=
  match args with
  | [.c .nilp] => some (.c (.b true))
  | [.c (.p id off 0)] =>
    match jbA H id off with
    | some (nx, _, d, g) =>
      match slP dcI H nx with
      | some L => some (.c (.b (dnJ L d g)))
      | none => none
    | none => none
  | _ => none
theorem s_ldone_eq {id off : Nat} {nx : Sc} {t g : Int} {d : Bool} {L : List Int} (h : jbA H id off = some (nx, t, d, g)) (hL : slP dcI H nx = some L) : s_ldone [.c (.p id off 0)] H = some (.c (.b (dnJ L d g))) := by
  simp only [s_ldone, h, hL]
set_option maxRecDepth 100000 in
set_option maxHeartbeats 2000000 in
theorem ok_ldone : FpOk Try.prog 13 (fun args H => (s_ldone args H).map fun v => (v, H)) := by
  refine fq_ok (s := s_ldone) (tab := []) hmix TabOk.nil Try.func13 rfl Try.results13 Try.ntmps13 (by kernel_rfl) (by kernel_rfl) ?_
  intro args H v h hargs hH
  unfold s_ldone at h
  split at h
  · simp only [Option.some.injEq] at h
    subst h
    refine ⟨by simp only [List.length_cons, List.length_nil]; decide, rfl, ?_⟩
    (try simp (config := { maxSteps := 10000000 }) only [go_sem, seval]; repeat (simp (disch := omega) only [w64_d, ipos, ineg, dpos, dneg]; try simp (config := { maxSteps := 10000000 }) only [go_sem, seval]))
    (repeat' first | apply And.intro | (intro _; kernel_rfl) | kernel_rfl)
    exact subH_refl _
  · rename_i id off
    split at h <;> try (simp at h; done)
    rename_i nx t d g hj
    split at h <;> try (simp at h; done)
    rename_i L hL
    simp only [Option.some.injEq] at h
    subst h
    refine ⟨by simp only [List.length_cons, List.length_nil]; decide, rfl, ?_⟩
    obtain ⟨cs, ho, hle, g0, g1, g2, g3⟩ := jbA_inv hj
    have k0 : off + 1 ≤ cs.length := by omega
    have k2 : off + 2 + 1 ≤ cs.length := by omega
    have k3 : off + 3 + 1 ≤ cs.length := by omega
    have xl := slP_len hL
    have xs := slP_isS hL
    cases d with
    | false =>
      (try simp (config := { maxSteps := 10000000 }) only [go_sem, seval, ho, g0, g2, g3, k0, k2, k3, dnJ, xl, xs, as_len_y, tm_y]; repeat (simp (disch := omega) only [w64_d, ipos, ineg, dpos, dneg]; try simp (config := { maxSteps := 10000000 }) only [go_sem, seval, ho, g0, g2, g3, k0, k2, k3, dnJ, xl, xs, as_len_y, tm_y]))
      (repeat' first | apply And.intro | (intro _; kernel_rfl) | kernel_rfl)
      exact subH_refl _
    | true =>
      (try simp (config := { maxSteps := 10000000 }) only [go_sem, seval, ho, g0, g2, g3, k0, k2, k3, dnJ, xl, xs, as_len_y, tm_y]; repeat (simp (disch := omega) only [w64_d, ipos, ineg, dpos, dneg]; try simp (config := { maxSteps := 10000000 }) only [go_sem, seval, ho, g0, g2, g3, k0, k2, k3, dnJ, xl, xs, as_len_y, tm_y]))
      (repeat' first | apply And.intro | (intro _; kernel_rfl) | kernel_rfl)
      exact subH_refl _
  · simp at h
end
end
end Go.Proofs.Ythfccacopffkgaa
