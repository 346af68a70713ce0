/- Layer 12: a job's step: contracts. -/
import Derived.Test.YthfccacopffkgaaLkB
namespace Go.Proofs.Ythfccacopffkgaa
open Go.Am
set_option linter.unusedSimpArgs false
set_option linter.unusedVariables false
noncomputable section
set_option maxRecDepth 100000

section
variable {H : AH}
/-! ### what jobs are for, in the laws -/
def s_ljact (args : List AV) (H : AH) : Option (AV × AH) :=
  match args with
  | [.c (.p c 0 0)] =>
    match hg H c with
    | .own [.i n] => some (.t [], H.set c (.own [.i (w64 (n + 1))]))
    | _ => none
  | _ => none
theorem len_ljact (args : List AV) (H : AH) (v : AV) (H1 : AH) (h : s_ljact args H = some (v, H1)) : H.length ≤ H1.length := by
  unfold s_ljact at h
  repeat' split at h
  all_goals simp at h
  rw [← h.2]; simp
set_option maxRecDepth 100000 in
set_option maxHeartbeats 2000000 in
theorem ok_ljact : FpOk Try.prog 26 s_ljact := by
  refine fp_ok (s := s_ljact) (tab := []) hmix TabOk.nil Try.func26 rfl Try.results26 Try.ntmps26 (by kernel_rfl) (by kernel_rfl) len_ljact ?_
  intro args H v H1 h hargs hH
  unfold s_ljact at h
  split at h
  · rename_i c
    split at h <;> try (simp at h; done)
    rename_i n ho
    simp only [Option.some.injEq, Prod.mk.injEq] at h
    obtain ⟨rfl, rfl⟩ := h
    refine ⟨by simp only [List.length_cons, List.length_nil]; decide, ?_⟩
    (try simp (config := { maxSteps := 10000000 }) only [go_sem, seval, ho]; repeat (simp (disch := omega) only [w64_d, ipos, ineg, dpos, dneg]; try simp (config := { maxSteps := 10000000 }) only [go_sem, seval, ho]))
    exact fin_same
  · simp at h
def s_lsact (args : List AV) (H : AH) : Option (AV × AH) :=
  match args with
  | [.c (.p bl 0 0), .c (.p bw 0 0), .c (.p bj 0 0), .c (.p bf 0 0)] =>
    match hg H bl, hg H bw, hg H bj with
    | .own [.p p 0 0], .own [.i w], .own [.p id off 0] =>
      match s_lheld [.c (.p p 0 0), .c (.i w)] H with
      | some (.c x, K1) =>
        match hg K1 bj with
        | .own [.p id' off' 0] =>
          match s_lneeds [.c (.p id' off' 0)] K1 with
          | some (.c y, K2) =>
            match s_ints [.c x, .c y] K2, hg K2 bf with
            | some (.c (.b q)), .own [_] => some (.t [], K2.set bf (.own [.b q]))
            | _, _ => none
          | _ => none
        | _ => none
      | _ => none
    | _, _, _ => none
  | _ => none
theorem lheld_len {args : List AV} {H : AH} {v : AV} {H1 : AH} (h : s_lheld args H = some (v, H1)) : H.length ≤ H1.length := frS_len _ _ _ _ h
theorem len_lsact (args : List AV) (H : AH) (v : AV) (H1 : AH) (h : s_lsact args H = some (v, H1)) : H.length ≤ H1.length := by
  unfold s_lsact at h
  split at h <;> try (simp at h; done)
  split at h <;> try (simp at h; done)
  split at h <;> try (simp at h; done)
  rename_i h1
  split at h <;> try (simp at h; done)
  split at h <;> try (simp at h; done)
  rename_i h2
  split at h <;> try (simp at h; done)
  simp only [Option.some.injEq, Prod.mk.injEq] at h
  rw [← h.2, List.length_set]
  exact Nat.le_trans (lheld_len h1) (len_lneeds _ _ _ _ h2)
set_option maxRecDepth 100000 in
set_option maxHeartbeats 2000000 in
theorem ok_lsact : FpOk Try.prog 35 s_lsact := by
  refine fp_ok (s := s_lsact) (tab := [(14, .fp s_lheld), (10, .fp s_lneeds), (21, .fq s_ints)]) hmix (TabOk.cons (e := .fp s_lheld) ok_lheld (TabOk.cons (e := .fp s_lneeds) ok_lneeds (TabOk.cons (e := .fq s_ints) ok_ints TabOk.nil))) Try.func35 rfl Try.results35 Try.ntmps35 (by kernel_rfl) (by kernel_rfl) len_lsact ?_
  intro args H v H1 h hargs hH
  unfold s_lsact at h
  split at h <;> try (simp at h; done)
  rename_i bl bw bj bf
  split at h <;> try (simp at h; done)
  rename_i p w id off o1 o2 o3
  split at h <;> try (simp at h; done)
  rename_i x K1 h1
  split at h <;> try (simp at h; done)
  rename_i id' off' o4
  split at h <;> try (simp at h; done)
  rename_i y K2 h2
  split at h <;> try (simp at h; done)
  rename_i q o5 h3 h4
  simp only [Option.some.injEq, Prod.mk.injEq] at h
  obtain ⟨rfl, rfl⟩ := h
  refine ⟨by simp only [List.length_cons, List.length_nil]; decide, ?_⟩
  (try simp (config := { maxSteps := 10000000 }) only [go_sem, seval, o1, o2, o3, h1, o4, h2, h3, h4]; repeat (simp (disch := omega) only [w64_d, ipos, ineg, dpos, dneg]; try simp (config := { maxSteps := 10000000 }) only [go_sem, seval, o1, o2, o3, h1, o4, h2, h3, h4]))
  exact fin_same
def s_act (fn : Nat) (caps : List (Nat × Nat × Nat)) (H : AH) : Option (AV × AH) :=
  if fn = 26 then s_ljact (caps.map capV) H
  else if fn = 35 then s_lsact (caps.map capV) H
  else none
theorem act_len {fn : Nat} {caps : List (Nat × Nat × Nat)} {H H1 : AH} {v : AV} (h : s_act fn caps H = some (v, H1)) : H.length ≤ H1.length := by
  unfold s_act at h
  split at h
  · exact len_ljact _ _ _ _ h
  · split at h
    · exact len_lsact _ _ _ _ h
    · simp at h
end
end
end Go.Proofs.Ythfccacopffkgaa
