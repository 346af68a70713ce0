/- Layer 12: a job's step in the law: contract. -/
import Derived.Test.YthfccacopffkgaaLkU
namespace Go.Proofs.Ythfccacopffkgaa
open Go.Am
set_option linter.unusedSimpArgs false
set_option linter.unusedVariables false
noncomputable section
set_option maxRecDepth 100000

section
variable {H : AH}
/-- where the step's boxes lie -/
def gsC (n : Nat) : List (Nat × Nat × Nat) := [(n, 0, 0), (n + 2, 0, 0), (n + 1, 0, 0), (n + 3, 0, 0)]
def s_gstep (args : List AV) (H : AH) : Option (AV × AH) :=
  match args with
  | [.c (.p p 0 0), .c (.p id off 0), .c (.i w)] =>
    match s_lstep [.c (.p id off 0), .c (.p p 0 0), .c (.i w), .c (.f 35 (gsC H.length))] (H ++ [.own [.p p 0 0], .own [.p id off 0], .own [.i w], .own [.b true]]) with
    | some (.c (.i _), K) =>
      match hg K (H.length + 3) with
      | .own [.b q] => some (.c (.b q), K)
      | _ => none
    | _ => none
  | _ => none
theorem len_gstep (args : List AV) (H : AH) (v : AV) (H1 : AH) (h : s_gstep args H = some (v, H1)) : H.length ≤ H1.length := by
  unfold s_gstep at h
  split at h <;> try (simp at h; done)
  split at h <;> try (simp at h; done)
  rename_i h1
  split at h <;> try (simp at h; done)
  simp only [Option.some.injEq, Prod.mk.injEq] at h
  rw [← h.2]
  have := len_lstep _ _ _ _ h1
  rw [List.length_append] at this
  omega
set_option maxRecDepth 100000 in
set_option maxHeartbeats 2000000 in
theorem ok_gstep : FpOk Try.prog 11 s_gstep := by
  refine fp_ok (s := s_gstep) (tab := [(25, .fp s_lstep)]) hmix (TabOk.cons (e := .fp s_lstep) ok_lstep TabOk.nil) Try.func11 rfl Try.results11 Try.ntmps11 (by kernel_rfl) (by kernel_rfl) len_gstep ?_
  intro args H v H1 h hargs hH
  unfold s_gstep at h
  split at h <;> try (simp at h; done)
  rename_i p id off w
  split at h <;> try (simp at h; done)
  rename_i r K h1
  split at h <;> try (simp at h; done)
  rename_i q h2
  simp only [Option.some.injEq, Prod.mk.injEq] at h
  obtain ⟨rfl, rfl⟩ := h
  refine ⟨by simp only [List.length_cons, List.length_nil]; decide, ?_⟩
  unfold gsC at h1
  (try simp (config := { maxSteps := 10000000 }) only [go_sem, seval, h1, h2]; repeat (simp (disch := omega) only [w64_d, ipos, ineg, dpos, dneg]; try simp (config := { maxSteps := 10000000 }) only [go_sem, seval, h1, h2]))
  (repeat' first | apply And.intro | (intro _; kernel_rfl) | kernel_rfl)
  exact fin_same
theorem s_gstep_ex {D : Ld} (h : LI H D) {id : Nat} {A B : List Sc} {nx : Sc} {L : List Int} {s : Nat} {w : Int} (hj : hg H id = .own (A ++ jbC nx L.length s B)) (hL : slP dcI H nx = some L) (hs : s ≤ 2 * L.length + 1) (hid : id ∉ D.ids)
    (hnx : ∀ i, sidI nx = some i → i ∉ D.ids ∧ i ≠ id ∧ i < H.length) (hlen : L.length ≤ 1000) (he : s = L.length → heS D.S w = L) :
    ∃ K E, s_gstep [.c (.p D.p 0 0), .c (.p id A.length 0), .c (.i w)] H = some (.c (.b true), K) ∧ JSt H K D E id (stS D.S w L s) (A ++ jbC nx L.length (stN D.S w L s) B) := by
  have lid : id < H.length := hg_lt (by rw [hj]; rfl)
  obtain ⟨H0, hH0⟩ : ∃ H0 : AH, H0 = H ++ [.own [.p D.p 0 0], .own [.p id A.length 0], .own [.i w], .own [.b true]] := ⟨_, rfl⟩
  have l0 : H0.length = H.length + 4 := by rw [hH0]; simp
  have h0 : LI H0 D := by rw [hH0]; exact h.app _
  have old0 : ∀ i, i < H.length → hg H0 i = hg H i := fun i hi => by rw [hH0, hg_lt' hi]
  have o0 : hg H0 H.length = .own [.p D.p 0 0] := by rw [hH0, hg_len]; rfl
  have o1 : hg H0 (H.length + 1) = .own [.p id A.length 0] := by rw [hH0, hg_len_add]; rfl
  have o2 : hg H0 (H.length + 2) = .own [.i w] := by rw [hH0, hg_len_add]; rfl
  have o3 : hg H0 (H.length + 3) = .own [.b true] := by rw [hH0, hg_len_add]; rfl
  have hj0 : hg H0 id = .own (A ++ jbC nx L.length s B) := by rw [old0 id lid, hj]
  have hL0 : slP dcI H0 nx = some L := slP_frame hL fun i hi => old0 i (hnx i hi).2.2
  have nid : ∀ i ∈ D.ids, i < H.length := fun i hi => h.lt hi
  unfold s_gstep
  simp only
  rw [← hH0]
  by_cases c : s = L.length
  · subst c
    obtain ⟨K0, hK0⟩ : ∃ K0 : AH, K0 = H0.set id (.own (A ++ jbC nx L.length (L.length + 1) B)) := ⟨_, rfl⟩
    have lK0 : K0.length = H.length + 4 := by rw [hK0, List.length_set, l0]
    have ne0 : ∀ i, i ≠ id → hg K0 i = hg H0 i := fun i hi => by rw [hK0, hg_set_ne' (fun c => hi c.symm)]
    have k0 : LI K0 D := h0.frame fun i hi => ne0 i (fun c => hid (c ▸ hi))
    have kj : hg K0 id = .own (A ++ jbC nx L.length (L.length + 1) B) := by rw [hK0, hg_set_same (by omega)]
    have kL : slP dcI K0 nx = some L := slP_frame hL0 fun i hi => ne0 i (hnx i hi).2.1
    have e1 := s_lheld_eq k0 w
    rw [he rfl] at e1
    obtain ⟨K1, hK1⟩ : ∃ K1 : AH, K1 = K0 ++ [.vec 1 (L.flatMap encI)] := ⟨_, rfl⟩
    rw [← hK1] at e1
    have lK1 : K1.length = H.length + 5 := by rw [hK1, List.length_append, lK0]; rfl
    have k1o : ∀ i, i < K0.length → hg K1 i = hg K0 i := fun i hi => by rw [hK1, hg_lt' hi]
    have e2 := s_lneeds_eq (H := K1) (jb_at (A := A) (B := B) (s := L.length + 1) (by rw [k1o id (by omega), kj])) (slP_frame kL fun i hi => k1o i (by have := (hnx i hi).2.2; omega)) (by omega)
    obtain ⟨K2, hK2⟩ : ∃ K2 : AH, K2 = K1 ++ [.vec 1 (L.flatMap encI)] := ⟨_, rfl⟩
    rw [← hK2] at e2
    have lK2 : K2.length = H.length + 6 := by rw [hK2, List.length_append, lK1]; rfl
    have k2o : ∀ i, i < K0.length → hg K2 i = hg K0 i := fun i hi => by rw [hK2, hg_lt' (by omega), k1o i hi]
    have e3 : s_ints [.c (.sl K0.length 0 L.length L.length), .c (.sl K1.length 0 L.length L.length)] K2 = some (.c (.b true)) := s_ints_eq (A := L) (isx_sp (.inr ⟨_, rfl, by rw [hK2, hg_lt' (by omega), hK1, hg_len]; rfl⟩)) (isx_sp (.inr ⟨_, rfl, by rw [hK2, hg_len]; rfl⟩)) (by omega)
    have b0 : hg K0 H.length = .own [.p D.p 0 0] := by rw [ne0 _ (by omega), o0]
    have b1 : hg K0 (H.length + 1) = .own [.p id A.length 0] := by rw [ne0 _ (by omega), o1]
    have b2 : hg K0 (H.length + 2) = .own [.i w] := by rw [ne0 _ (by omega), o2]
    have b3 : hg K0 (H.length + 3) = .own [.b true] := by rw [ne0 _ (by omega), o3]
    have b1' : hg K1 (H.length + 1) = .own [.p id A.length 0] := by rw [k1o _ (by omega), b1]
    have b3' : hg K2 (H.length + 3) = .own [.b true] := by rw [k2o _ (by omega), b3]
    have ha : s_act 35 (gsC H.length) K0 = some (.t [], K2.set (H.length + 3) (.own [.b true])) := by
      unfold s_act
      rw [if_neg (by decide), if_pos rfl]
      show s_lsact [.c (.p H.length 0 0), .c (.p (H.length + 2) 0 0), .c (.p (H.length + 1) 0 0), .c (.p (H.length + 3) 0 0)] _ = _
      simp only [s_lsact, b0, b1, b2, e1, b1', e2, e3, b3']
    obtain ⟨K3, hK3⟩ : ∃ K3 : AH, K3 = K2.set (H.length + 3) (.own [.b true]) := ⟨_, rfl⟩
    rw [← hK3] at ha
    have k3o : ∀ i, i < K0.length → i ≠ H.length + 3 → hg K3 i = hg K0 i := fun i hi hne => by rw [hK3, hg_set_ne' (fun c => hne c.symm), k2o i hi]
    have k3j : hg K3 id = .own (A ++ jbC nx L.length (L.length + 1) B) := by rw [k3o id (by omega) (by omega), kj]
    have k3L : slP dcI K3 nx = some L := slP_frame kL fun i hi => k3o i (by have := (hnx i hi).2.2; omega) (by have := (hnx i hi).2.2; omega)
    rw [hK0] at ha
    have e4 := s_lstep_do (w := w) (z := .p D.p 0 0) hj0 hL0 (fun c => (hnx id c).2.1 rfl) hlen ha k3j k3L
    have k3b : hg K3 (H.length + 3) = .own [.b true] := by rw [hK3, hg_set_same (by omega)]
    have es : stS D.S w L L.length = D.S := by
      unfold stS
      rw [if_neg (by omega), if_neg (Nat.lt_irrefl _), if_pos rfl]
    have en : stN D.S w L L.length = L.length + 1 := by
      unfold stN
      rw [if_neg (by omega), if_neg (Nat.lt_irrefl _)]
    rw [es, en]
    refine ⟨K3, D, by simp only [e4, k3b], k0.frame fun i hi => k3o i (by have := nid i hi; omega) (by have := nid i hi; omega), rfl, rfl, rfl, by rw [hK3, List.length_set]; omega, fun i hi hn hne => ?_, fun i hi => .inl hi, k3j⟩
    rw [k3o i (by omega) (by omega), ne0 i hne, old0 i hi]
  · obtain ⟨H1, E, e1, e2⟩ := s_lstep_ex (w := w) h0 hj0 hL0 hs c hid (fun i hi => ⟨(hnx i hi).1, (hnx i hi).2.1⟩) hlen 35 (gsC H.length)
    have b3 : hg H1 (H.length + 3) = .own [.b true] := by rw [e2.old _ (by omega) (fun c => by have := nid _ c; omega) (by omega), o3]
    refine ⟨H1, E, by simp only [e1, b3], e2.li, e2.s, e2.p, e2.n, by have := e2.len; omega, fun i hi hn hne => by rw [e2.old i (by omega) hn hne, old0 i hi], fun i hi => ?_, e2.o⟩
    rcases e2.ids i hi with g | g
    · exact .inl g
    · exact .inr (by omega)
end
end
end Go.Proofs.Ythfccacopffkgaa
