/- Layer 12: a job's step: the walk. -/
import Derived.Test.YthfccacopffkgaaLkC
namespace Go.Proofs.Ythfccacopffkgaa
open Go.Am
set_option linter.unusedSimpArgs false
set_option linter.unusedVariables false
noncomputable section
set_option maxRecDepth 100000

section
variable {H : AH}
def ownC : AObj → Option (List Sc)
  | .own cs => some cs
  | _ => none
theorem ownC_inv {o : AObj} {cs : List Sc} (h : ownC o = some cs) : o = .own cs := by
  unfold ownC at h
  split at h
  · simp at h; rw [h]
  · simp at h
/-- a lock is taken -/
def stTk (id off : Nat) (z : Sc) (w t : Int) (L : List Int) (H : AH) : Option (AV × AH) :=
  match s_ltake [.c z, .c (.i w), .c (.i (L.getD t.toNat 0))] H with
  | some (.c (.b true), K) =>
    match jbA K id off, ownC (hg K id) with
    | some (_, t', _, _), some cs => some (.c (.i 1), K.set id (.own (cs.set (off + 1) (.i (w64 (t' + 1))))))
    | _, _ => none
  | some (.c (.b false), K) => some (.c (.i 0), K)
  | _ => none
/-- what it is for is done -/
def stDo (id off : Nat) (fn : Nat) (caps : List (Nat × Nat × Nat)) (H : AH) : Option (AV × AH) :=
  match ownC (hg H id) with
  | some cs =>
    match s_act fn caps (H.set id (.own (cs.set (off + 2) (.b true)))) with
    | some (_, K) =>
      match jbA K id off with
      | some (nx, _, _, _) =>
        match slP dcI K nx with
        | some L => some (.c (.i (if L.length = 0 then 4 else 2)), K)
        | none => none
      | none => none
    | none => none
  | none => none
/-- a lock is given back -/
def stGv (id off : Nat) (z : Sc) (w g : Int) (L : List Int) (H : AH) : Option (AV × AH) :=
  match ownC (hg H id) with
  | some cs =>
    match s_ldrop [.c z, .c (.i w), .c (.i (L.getD ((L.length : Int) - (g + 1)).toNat 0))] (H.set id (.own (cs.set (off + 3) (.i (g + 1))))) with
    | some (.c (.b _), K) =>
      match s_ldone [.c (.p id off 0)] K with
      | some (.c (.b q)) => some (.c (.i (if q = true then 4 else 3)), K)
      | _ => none
    | _ => none
  | none => none
def s_lstep (args : List AV) (H : AH) : Option (AV × AH) :=
  match args with
  | [.c .nilp, .c _, .c (.i _), .c (.f _ _)] => some (.c (.i 4), H)
  | [.c (.p id off 0), .c z, .c (.i w), .c (.f fn caps)] =>
    match jbA H id off with
    | some (nx, t, d, g) =>
      match slP dcI H nx with
      | some L =>
        if ¬ (sidI nx = some id) ∧ 0 ≤ t ∧ 0 ≤ g ∧ L.length ≤ 1000000 then
          if dnJ L d g = true then some (.c (.i 4), H)
          else if t < L.length then stTk id off z w t L H
          else if d = false then stDo id off fn caps H
          else if g < L.length then stGv id off z w g L H
          else none
        else none
      | none => none
    | none => none
  | _ => none
theorem ltake_len {args : List AV} {H : AH} {v : AV} {H1 : AH} (h : s_ltake args H = some (v, H1)) : H.length ≤ H1.length := frS_len _ _ _ _ h
theorem ldrop_len {args : List AV} {H : AH} {v : AV} {H1 : AH} (h : s_ldrop args H = some (v, H1)) : H.length ≤ H1.length := frS_len _ _ _ _ h
theorem len_lstep (args : List AV) (H : AH) (v : AV) (H1 : AH) (h : s_lstep args H = some (v, H1)) : H.length ≤ H1.length := by
  unfold s_lstep at h
  split at h
  · simp only [Option.some.injEq, Prod.mk.injEq] at h; rw [← h.2]; exact Nat.le_refl _
  · split at h <;> try (simp at h; done)
    split at h <;> try (simp at h; done)
    split at h <;> try (simp at h; done)
    split at h
    · simp only [Option.some.injEq, Prod.mk.injEq] at h; rw [← h.2]; exact Nat.le_refl _
    split at h
    · unfold stTk at h
      split at h <;> try (simp at h; done)
      · rename_i h1
        split at h <;> try (simp at h; done)
        simp only [Option.some.injEq, Prod.mk.injEq] at h
        rw [← h.2, List.length_set]
        exact ltake_len h1
      · rename_i h1
        simp only [Option.some.injEq, Prod.mk.injEq] at h
        rw [← h.2]
        exact ltake_len h1
    split at h
    · unfold stDo at h
      split at h <;> try (simp at h; done)
      split at h <;> try (simp at h; done)
      rename_i h1
      split at h <;> try (simp at h; done)
      split at h <;> try (simp at h; done)
      simp only [Option.some.injEq, Prod.mk.injEq] at h
      rw [← h.2]
      have := act_len h1
      rwa [List.length_set] at this
    split at h <;> try (simp at h; done)
    unfold stGv at h
    split at h <;> try (simp at h; done)
    split at h <;> try (simp at h; done)
    rename_i h1
    split at h <;> try (simp at h; done)
    simp only [Option.some.injEq, Prod.mk.injEq] at h
    rw [← h.2]
    have := ldrop_len h1
    rwa [List.length_set] at this
  · simp at h
set_option maxRecDepth 100000 in
set_option maxHeartbeats 2000000 in
theorem ok_lstep : FpOk Try.prog 25 s_lstep := by
  refine fp_ok (s := s_lstep) (tab := [(13, .fq s_ldone), (18, .fp s_ltake), (16, .fp s_ldrop), (26, .fp s_ljact), (35, .fp s_lsact)]) hmix (TabOk.cons (e := .fq s_ldone) ok_ldone (TabOk.cons (e := .fp s_ltake) ok_ltake (TabOk.cons (e := .fp s_ldrop) ok_ldrop (TabOk.cons (e := .fp s_ljact) ok_ljact (TabOk.cons (e := .fp s_lsact) ok_lsact TabOk.nil))))) Try.func25 rfl Try.results25 Try.ntmps25 (by kernel_rfl) (by kernel_rfl) len_lstep ?_
  intro args H v H1 h hargs hH
  unfold s_lstep at h
  split at h
  · simp only [Option.some.injEq, Prod.mk.injEq] at h
    obtain ⟨rfl, rfl⟩ := h
    refine ⟨by simp only [List.length_cons, List.length_nil]; decide, ?_⟩
    have dn : s_ldone [.c .nilp] H = some (.c (.b true)) := rfl
    (try simp (config := { maxSteps := 10000000 }) only [go_sem, seval, dn]; repeat (simp (disch := omega) only [w64_d, ipos, ineg, dpos, dneg]; try simp (config := { maxSteps := 10000000 }) only [go_sem, seval, dn]))
    exact fin_same
  · rename_i id off z w fn caps
    split at h <;> try (simp at h; done)
    rename_i nx t d g hj
    split at h <;> try (simp at h; done)
    rename_i L hL
    split at h <;> try (simp at h; done)
    rename_i hc
    obtain ⟨k1, k2, k3, k4⟩ := hc
    refine ⟨by simp only [List.length_cons, List.length_nil]; decide, ?_⟩
    obtain ⟨cs, ho, hle, g0, g1, g2, g3⟩ := jbA_inv hj
    have lid : id < H.length := hg_lt (by rw [ho]; rfl)
    have q0 : off + 1 ≤ cs.length := by omega
    have q1 : off + 1 + 1 ≤ cs.length := by omega
    have q2 : off + 2 + 1 ≤ cs.length := by omega
    have q3 : off + 3 + 1 ≤ cs.length := by omega
    have xl := slP_len hL
    have xs := slP_isS hL
    have dn := s_ldone_eq hj hL
    split at h
    · rename_i hd
      rw [hd] at dn
      simp only [Option.some.injEq, Prod.mk.injEq] at h
      obtain ⟨rfl, rfl⟩ := h
      (try simp (config := { maxSteps := 10000000 }) only [go_sem, seval, dn]; repeat (simp (disch := omega) only [w64_d, ipos, ineg, dpos, dneg]; try simp (config := { maxSteps := 10000000 }) only [go_sem, seval, dn]))
      exact fin_same
    rename_i hd
    rw [show dnJ L d g = false by simpa using hd] at dn
    split at h
    · rename_i ht
      have hget : ∃ a, L[t.toNat]? = some a := ⟨_, List.getElem?_eq_getElem (by omega)⟩
      obtain ⟨a, ha⟩ := hget
      have hgd : L.getD t.toNat 0 = a := by rw [List.getD_eq_getElem?_getD, ha]; rfl
      rcases slP_inv gI_d hL with ⟨rfl, rfl⟩ | ⟨i, v, rfl, hv, hlen, hcs⟩
      · simp at ht; omega
      have b2 := slP_get hcs ha
      have b1 : t.toNat + 1 ≤ (hg H i).cells.length := by omega
      have hv' := hv.symm
      unfold stTk at h
      rw [hgd] at h
      split at h <;> try (simp at h; done)
      · rename_i K htk
        split at h <;> try (simp at h; done)
        rename_i e1 t' e2 e3 cs' hj2 hcs2
        simp only [Option.some.injEq, Prod.mk.injEq] at h
        obtain ⟨rfl, rfl⟩ := h
        obtain ⟨cs2, ho2, hle2, m0, m1, m2, m3⟩ := jbA_inv hj2
        have hcs2 := ownC_inv hcs2
        rw [ho2] at hcs2
        simp only [AObj.own.injEq] at hcs2
        subst hcs2
        have q1' : off + 1 + 1 ≤ cs2.length := by omega
        have r1 : wr cs2 (off + 1) [.i (w64 (t' + 1))] = cs2.set (off + 1) (.i (w64 (t' + 1))) := wr_one (by omega)
        (try simp (config := { maxSteps := 10000000 }) only [go_sem, seval, dn, ho, g0, g1, g2, q0, q1, xl, xs, as_len_y, tm_y, ht, k2, b1, b2, gI, hv', htk, ho2, m1, q1', r1]; repeat (simp (disch := omega) only [w64_d, ipos, ineg, dpos, dneg]; try simp (config := { maxSteps := 10000000 }) only [go_sem, seval, dn, ho, g0, g1, g2, q0, q1, xl, xs, as_len_y, tm_y, ht, k2, b1, b2, gI, hv', htk, ho2, m1, q1', r1]))
        (repeat' first | apply And.intro | (intro _; kernel_rfl) | kernel_rfl)
        exact fin_same
      · rename_i K htk
        simp only [Option.some.injEq, Prod.mk.injEq] at h
        obtain ⟨rfl, rfl⟩ := h
        (try simp (config := { maxSteps := 10000000 }) only [go_sem, seval, dn, ho, g0, g1, g2, q0, q1, xl, xs, as_len_y, tm_y, ht, k2, b1, b2, gI, hv', htk]; repeat (simp (disch := omega) only [w64_d, ipos, ineg, dpos, dneg]; try simp (config := { maxSteps := 10000000 }) only [go_sem, seval, dn, ho, g0, g1, g2, q0, q1, xl, xs, as_len_y, tm_y, ht, k2, b1, b2, gI, hv', htk]))
        (repeat' first | apply And.intro | (intro _; kernel_rfl) | kernel_rfl)
        exact fin_same
    rename_i ht
    split at h
    · rename_i hdf
      subst hdf
      unfold stDo at h
      rw [ho] at h
      simp only [ownC] at h
      split at h <;> try (simp at h; done)
      rename_i va K hac
      split at h <;> try (simp at h; done)
      rename_i nx' e1 e2 e3 hj2
      split at h <;> try (simp at h; done)
      rename_i L' hL'
      simp only [Option.some.injEq, Prod.mk.injEq] at h
      obtain ⟨rfl, rfl⟩ := h
      obtain ⟨cs2, ho2, hle2, m0, m1, m2, m3⟩ := jbA_inv hj2
      have xl' := slP_len hL'
      have xs' := slP_isS hL'
      have q0' : off + 1 ≤ cs2.length := by omega
      have r1 : wr cs (off + 2) [.b true] = cs.set (off + 2) (.b true) := wr_one (by omega)
      unfold s_act at hac
      split at hac
      · rename_i hfn
        subst hfn
        by_cases hz : L'.length = 0
        · rw [if_pos hz]
          (try simp (config := { maxSteps := 10000000 }) only [go_sem, seval, dn, ho, g0, g1, g2, q0, q1, q2, xl, xs, as_len_y, tm_y, ht, r1, hac, ho2, m0, q0', xl', xs', hz]; repeat (simp (disch := omega) only [w64_d, ipos, ineg, dpos, dneg]; try simp (config := { maxSteps := 10000000 }) only [go_sem, seval, dn, ho, g0, g1, g2, q0, q1, q2, xl, xs, as_len_y, tm_y, ht, r1, hac, ho2, m0, q0', xl', xs', hz]))
          (repeat' first | apply And.intro | (intro _; kernel_rfl) | kernel_rfl)
          exact fin_same
        · rw [if_neg hz]
          have hz' : ¬ ((L'.length : Int) = 0) := by omega
          (try simp (config := { maxSteps := 10000000 }) only [go_sem, seval, dn, ho, g0, g1, g2, q0, q1, q2, xl, xs, as_len_y, tm_y, ht, r1, hac, ho2, m0, q0', xl', xs', hz']; repeat (simp (disch := omega) only [w64_d, ipos, ineg, dpos, dneg]; try simp (config := { maxSteps := 10000000 }) only [go_sem, seval, dn, ho, g0, g1, g2, q0, q1, q2, xl, xs, as_len_y, tm_y, ht, r1, hac, ho2, m0, q0', xl', xs', hz']))
          (repeat' first | apply And.intro | (intro _; kernel_rfl) | kernel_rfl)
          exact fin_same
      · split at hac <;> try (simp at hac; done)
        rename_i hfn
        subst hfn
        by_cases hz : L'.length = 0
        · rw [if_pos hz]
          (try simp (config := { maxSteps := 10000000 }) only [go_sem, seval, dn, ho, g0, g1, g2, q0, q1, q2, xl, xs, as_len_y, tm_y, ht, r1, hac, ho2, m0, q0', xl', xs', hz]; repeat (simp (disch := omega) only [w64_d, ipos, ineg, dpos, dneg]; try simp (config := { maxSteps := 10000000 }) only [go_sem, seval, dn, ho, g0, g1, g2, q0, q1, q2, xl, xs, as_len_y, tm_y, ht, r1, hac, ho2, m0, q0', xl', xs', hz]))
          (repeat' first | apply And.intro | (intro _; kernel_rfl) | kernel_rfl)
          exact fin_same
        · rw [if_neg hz]
          have hz' : ¬ ((L'.length : Int) = 0) := by omega
          (try simp (config := { maxSteps := 10000000 }) only [go_sem, seval, dn, ho, g0, g1, g2, q0, q1, q2, xl, xs, as_len_y, tm_y, ht, r1, hac, ho2, m0, q0', xl', xs', hz']; repeat (simp (disch := omega) only [w64_d, ipos, ineg, dpos, dneg]; try simp (config := { maxSteps := 10000000 }) only [go_sem, seval, dn, ho, g0, g1, g2, q0, q1, q2, xl, xs, as_len_y, tm_y, ht, r1, hac, ho2, m0, q0', xl', xs', hz']))
          (repeat' first | apply And.intro | (intro _; kernel_rfl) | kernel_rfl)
          exact fin_same
    rename_i hdf
    have hdt : d = true := by simpa using hdf
    subst hdt
    split at h <;> try (simp at h; done)
    rename_i hg1
    unfold stGv at h
    rw [ho] at h
    simp only [ownC] at h
    split at h <;> try (simp at h; done)
    rename_i bq K hdr
    split at h <;> try (simp at h; done)
    rename_i q hdn
    simp only [Option.some.injEq, Prod.mk.injEq] at h
    obtain ⟨rfl, rfl⟩ := h
    obtain ⟨j, hjj⟩ : ∃ j : Nat, (L.length : Int) - (g + 1) = (j : Int) := ⟨((L.length : Int) - (g + 1)).toNat, by omega⟩
    rw [hjj, Int.toNat_natCast] at hdr
    have jl : j < L.length := by omega
    obtain ⟨a, ha⟩ : ∃ a, L[j]? = some a := ⟨_, List.getElem?_eq_getElem jl⟩
    rw [show L.getD j 0 = a by rw [List.getD_eq_getElem?_getD, ha]; rfl] at hdr
    rcases slP_inv gI_d hL with ⟨rfl, rfl⟩ | ⟨i, v, rfl, hv, hlen, hcs⟩
    · simp at jl
    have ne : i ≠ id := fun c => k1 (by rw [c]; rfl)
    have hi : ∀ o, hg (H.set id o) i = hg H i := fun o => hg_set_ne' (fun c => ne c.symm)
    have hid : ∀ o, hg (H.set id o) id = o := fun o => hg_set_same lid
    have b2 := slP_get hcs ha
    have b1 : j + 1 ≤ (hg H i).cells.length := by omega
    have hv' := hv.symm
    have w1 : w64 (g + 1) = g + 1 := w64_d (by omega) (by omega)
    have r1 : wr cs (off + 3) [.i (g + 1)] = cs.set (off + 3) (.i (g + 1)) := wr_one (by omega)
    have s0 : (cs.set (off + 3) (.i (g + 1))).getD off .any = .sl i 0 v L.length := by
      rw [List.getD_eq_getElem?_getD, List.getElem?_set_ne (by omega), ← List.getD_eq_getElem?_getD, g0]
    have s3 : (cs.set (off + 3) (.i (g + 1))).getD (off + 3) .any = .i (g + 1) := by
      rw [List.getD_eq_getElem?_getD, List.getElem?_set_self (by omega)]; rfl
    have sL : (cs.set (off + 3) (.i (g + 1))).length = cs.length := List.length_set
    have w2 : w64 ((L.length : Int) - (g + 1)) = (j : Int) := by rw [w64_d (by omega) (by omega), hjj]
    have j0 : (j : Int) < L.length := by omega
    cases q with
    | true =>
      (try simp (config := { maxSteps := 10000000 }) only [go_sem, seval, dn, ho, g0, g1, g2, g3, q0, q1, q2, q3, xl, xs, as_len_y, tm_y, ht, w1, r1, hi, hid, s0, s3, sL, w2, j0, b1, b2, gI, hv', hdr, hdn, Int.toNat_natCast]; repeat (simp (disch := omega) only [w64_d, ipos, ineg, dpos, dneg]; try simp (config := { maxSteps := 10000000 }) only [go_sem, seval, dn, ho, g0, g1, g2, g3, q0, q1, q2, q3, xl, xs, as_len_y, tm_y, ht, w1, r1, hi, hid, s0, s3, sL, w2, j0, b1, b2, gI, hv', hdr, hdn, Int.toNat_natCast]))
      (repeat' first | apply And.intro | (intro _; kernel_rfl) | kernel_rfl)
      exact fin_same
    | false =>
      (try simp (config := { maxSteps := 10000000 }) only [go_sem, seval, dn, ho, g0, g1, g2, g3, q0, q1, q2, q3, xl, xs, as_len_y, tm_y, ht, w1, r1, hi, hid, s0, s3, sL, w2, j0, b1, b2, gI, hv', hdr, hdn, Int.toNat_natCast]; repeat (simp (disch := omega) only [w64_d, ipos, ineg, dpos, dneg]; try simp (config := { maxSteps := 10000000 }) only [go_sem, seval, dn, ho, g0, g1, g2, g3, q0, q1, q2, q3, xl, xs, as_len_y, tm_y, ht, w1, r1, hi, hid, s0, s3, sL, w2, j0, b1, b2, gI, hv', hdr, hdn, Int.toNat_natCast]))
      (repeat' first | apply And.intro | (intro _; kernel_rfl) | kernel_rfl)
      exact fin_same
  · simp at h
end
end
end Go.Proofs.Ythfccacopffkgaa
