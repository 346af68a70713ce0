/- Layer 32: one load, answered: contracts. -/
import Derived.Test.YtcbhelkafelofaaGreatFlA
namespace Go.Proofs.YtcbhelkafelofaaGreat
open Go.Am
set_option linter.unusedSimpArgs false
set_option linter.unusedVariables false
noncomputable section
set_option maxRecDepth 100000

/-- an answer that is a number -/
def ansF (v : BitVec 64) : List Sc := .u v :: .b false :: rowC row0
theorem ansF_l (v : BitVec 64) : (ansF v).length = 42 := rfl
theorem ansF_one (v : BitVec 64) : (ansF v).all Sc.one = true := rfl
/-- the number that is read -/
noncomputable def ld8 (B : List Int) (a : BitVec 64) : BitVec 64 := numF ((B.drop (ofF a)).take 8)
section
variable {H : AH}
noncomputable def s_fmem1 (args : List AV) (H : AH) : Option AV :=
  match args with
  | [.c (.p p 0 0), .c (.i _), .g (.i k :: .u a :: .u x :: .i c :: .i s :: r)] =>
    match wdR H p with
    | some (.sl id off v N, B) => if B.length ≤ 262144 ∧ k = 2 ∧ c = 0 ∧ s = 8 ∧ r.length = 14 ∧ r.all Sc.one = true ∧ hasF B.length a 8 = true then some (.g (ansF (ld8 B a))) else none
    | _ => none
  | _ => none
theorem s_fmem1_eq {p id off v N : Nat} {B : List Int} {h : Int} {a x : BitVec 64} {r : List Sc} (hw : wdR H p = some (.sl id off v N, B)) (h1 : B.length ≤ 262144) (h2 : r.length = 14) (h3 : r.all Sc.one = true) (h4 : hasF B.length a 8 = true) :
    s_fmem1 [.c (.p p 0 0), .c (.i h), .g (.i 2 :: .u a :: .u x :: .i 0 :: .i 8 :: r)] H = some (.g (ansF (ld8 B a))) := by
  simp only [s_fmem1, hw]; rw [if_pos ⟨h1, trivial, trivial, trivial, h2, h3, h4⟩]
set_option maxRecDepth 100000 in
set_option maxHeartbeats 2000000 in
theorem ok_fmem1 : FpOk Tryz.prog 33 (fun args H => (s_fmem1 args H).map fun v => (v, H)) := by
  refine fq_ok (s := s_fmem1) (tab := [(41, .fq s_fpart1), (30, .fq s_fnum)]) hmix (TabOk.cons (e := .fq s_fpart1) ok_fpart1 (TabOk.cons (e := .fq s_fnum) ok_fnum TabOk.nil)) Tryz.func33 rfl Tryz.results33 Tryz.ntmps33 (by kernel_rfl) (by kernel_rfl) ?_
  intro args H v h hargs hH
  unfold s_fmem1 at h
  split at h <;> try (simp at h; done)
  rename_i p h0 k a x c s r
  split at h <;> try (simp at h; done)
  rename_i id off v N B hx
  split at h <;> try (simp at h; done)
  rename_i hc
  obtain ⟨hB, rfl, rfl, rfl, lr, ro, hh⟩ := hc
  simp only [Option.some.injEq] at h
  subst h
  obtain ⟨c1, c2, c3, c4, r', ho, hcut⟩ := wdR_inv hx
  have hh' := hh
  rw [hasF_iff] at hh'
  have b0 : 0 < B.length := by omega
  refine ⟨by simp only [List.length_cons, List.length_nil]; decide, rfl, ?_⟩
  have rt : r.take 14 = r := List.take_of_length_le (by omega)
  have pt := fun X => s_fpart1_eq (wdR_app hx b0 X) hB lr ro hh (k := 2) (x := x)
  have fn := fun X => s_fnum_eq (H := H ++ X) (cutF_sub (cut_app hcut b0 X) (a := ofF a) (n := 8) (by omega)) (show cutF (H ++ X) .nils = some [] from rfl) (by rw [List.length_take]; omega) (by simp)
  simp only [List.append_nil] at fn
  (try simp (config := { maxSteps := 10000000 }) only [go_sem, seval, lr, ro, rt, pt, fn]; repeat (simp (disch := omega) only [w64_d, ipos, ineg, dpos, dneg]; try simp (config := { maxSteps := 10000000 }) only [go_sem, seval, lr, ro, rt, pt, fn]))
  exact ⟨rfl, subH_app _ _⟩
noncomputable def s_fmay1 (args : List AV) (H : AH) : Option AV :=
  match args with
  | [.c .nilp, .c (.i _), .g l] => if l.length = 19 ∧ l.all Sc.one = true then some (.c (.b false)) else none
  | [.c (.p p 0 0), .c (.i h), .g (.i k :: .u a :: .u x :: .i c :: .i s :: r)] =>
    match wdR H p, hg H p with
    | some (.sl id off v N, B), .own (.i n :: .i _ :: .i _ :: .i _ :: _) => if B.length ≤ 262144 ∧ k = 2 ∧ c = 0 ∧ s = 8 ∧ r.length = 14 ∧ (r.all Sc.pf = true ∧ r.all Sc.one = true) ∧ hasF B.length a 8 = true ∧ 0 ≤ h ∧ h < n then some (.c (.b true)) else none
    | _, _ => none
  | _ => none
set_option maxRecDepth 100000 in
set_option maxHeartbeats 2000000 in
theorem ok_fmay1 : FpOk Tryz.prog 15 (fun args H => (s_fmay1 args H).map fun v => (v, H)) := by
  refine fq_ok (s := s_fmay1) (tab := [(32, .pu s_fgrp1), (31, .fq s_fhart), (40, .pu s_fshp1), (41, .fq s_fpart1)]) hmix (TabOk.cons (e := .pu s_fgrp1) ok_fgrp1 (TabOk.cons (e := .fq s_fhart) ok_fhart (TabOk.cons (e := .pu s_fshp1) ok_fshp1 (TabOk.cons (e := .fq s_fpart1) ok_fpart1 TabOk.nil)))) Tryz.func15 rfl Tryz.results15 Tryz.ntmps15 (by kernel_rfl) (by kernel_rfl) ?_
  intro args H v h hargs hH
  unfold s_fmay1 at h
  split at h
  · rename_i h0 l
    split at h <;> try (simp at h; done)
    rename_i hc
    simp only [Option.some.injEq] at h
    subst h
    refine ⟨by simp only [List.length_cons, List.length_nil]; decide, rfl, ?_⟩
    obtain ⟨l1, l2⟩ := hc
    have lt : l.take 19 = l := List.take_of_length_le (by omega)
    (try simp (config := { maxSteps := 10000000 }) only [go_sem, seval, l1, l2, lt]; repeat (simp (disch := omega) only [w64_d, ipos, ineg, dpos, dneg]; try simp (config := { maxSteps := 10000000 }) only [go_sem, seval, l1, l2, lt]))
    exact subH_app _ _
  · rename_i p h0 k a x c s r
    split at h <;> try (simp at h; done)
    rename_i id off v N B n c1 c2 c3 rr hx ho
    split at h <;> try (simp at h; done)
    rename_i hc
    obtain ⟨hB, rfl, rfl, rfl, lr, ⟨rp, ro⟩, hh, n0, n1⟩ := hc
    simp only [Option.some.injEq] at h
    subst h
    refine ⟨by simp only [List.length_cons, List.length_nil]; decide, rfl, ?_⟩
    have hh' := hh
    rw [hasF_iff] at hh'
    have b0 : 0 < B.length := by omega
    have rt : r.take 14 = r := List.take_of_length_le (by omega)
    have pt := fun X => s_fpart1_eq (wdR_app hx b0 X) hB lr ro hh (k := 2) (x := x)
    have hX : ∀ X, hg (H ++ X) p = .own (.i n :: .i c1 :: .i c2 :: .i c3 :: rr) := fun X => by rw [hg_lt' (hg_lt (by rw [ho]; rfl)), ho]
    have ht : ∀ X, s_fhart [.c (.p p 0 0), .c (.i h0)] (H ++ X) = some (.c (.b true)) := fun X => by
      simp only [s_fhart, hX]
      rw [decide_eq_true n0, decide_eq_true n1]; rfl
    have gr : s_fgrp1 [.c (.i 2)] = some (.c (.i 1)) := rfl
    have sh : s_fshp1 [.g (.i 2 :: .u a :: .u x :: .i 0 :: .i 8 :: r)] = some (.c (.b true)) := by
      simp only [s_fshp1]; rw [if_pos ⟨trivial, trivial, trivial, lr, rp, ro⟩]
    (try simp (config := { maxSteps := 10000000 }) only [go_sem, seval, lr, ro, rt, pt, ht, gr, sh]; repeat (simp (disch := omega) only [w64_d, ipos, ineg, dpos, dneg]; try simp (config := { maxSteps := 10000000 }) only [go_sem, seval, lr, ro, rt, pt, ht, gr, sh]))
    exact subH_app _ _
  · simp at h
theorem s_fmay1_nil {h : Int} {l : List Sc} (h1 : l.length = 19) (h2 : l.all Sc.one = true) : s_fmay1 [.c .nilp, .c (.i h), .g l] H = some (.c (.b false)) := by
  simp only [s_fmay1]; rw [if_pos ⟨h1, h2⟩]
theorem s_fmay1_eq {p id off v N : Nat} {B : List Int} {n c1 c2 c3 h : Int} {rr : List Sc} {a x : BitVec 64} {r : List Sc} (hw : wdR H p = some (.sl id off v N, B)) (ho : hg H p = .own (.i n :: .i c1 :: .i c2 :: .i c3 :: rr)) (h1 : B.length ≤ 262144) (h2 : r.length = 14) (hp : r.all Sc.pf = true) (h3 : r.all Sc.one = true) (h4 : hasF B.length a 8 = true) (n0 : 0 ≤ h) (n1 : h < n) :
    s_fmay1 [.c (.p p 0 0), .c (.i h), .g (.i 2 :: .u a :: .u x :: .i 0 :: .i 8 :: r)] H = some (.c (.b true)) := by
  simp only [s_fmay1, hw, ho]; rw [if_pos ⟨h1, trivial, trivial, trivial, h2, ⟨hp, h3⟩, h4, n0, n1⟩]
noncomputable def s_fdo1 (args : List AV) (H : AH) : Option AV :=
  match args with
  | [.c .nilp, .c (.i _), .g l] => if l.length = 19 ∧ l.all Sc.one = true then some (.t [.g (ansF 0#64), .c (.b false)]) else none
  | [.c (.p p 0 0), .c (.i h), .g (.i k :: .u a :: .u x :: .i c :: .i s :: r)] =>
    match wdR H p, hg H p with
    | some (.sl id off v N, B), .own (.i n :: .i _ :: .i _ :: .i _ :: _) => if B.length ≤ 262144 ∧ k = 2 ∧ c = 0 ∧ s = 8 ∧ r.length = 14 ∧ (r.all Sc.pf = true ∧ r.all Sc.one = true) ∧ hasF B.length a 8 = true ∧ 0 ≤ h ∧ h < n then some (.t [.g (ansF (ld8 B a)), .c (.b true)]) else none
    | _, _ => none
  | _ => none
set_option maxRecDepth 100000 in
set_option maxHeartbeats 2000000 in
theorem ok_fdo1 : FpOk Tryz.prog 8 (fun args H => (s_fdo1 args H).map fun v => (v, H)) := by
  refine fq_ok (s := s_fdo1) (tab := [(15, .fq s_fmay1), (32, .pu s_fgrp1), (33, .fq s_fmem1)]) hmix (TabOk.cons (e := .fq s_fmay1) ok_fmay1 (TabOk.cons (e := .pu s_fgrp1) ok_fgrp1 (TabOk.cons (e := .fq s_fmem1) ok_fmem1 TabOk.nil))) Tryz.func8 rfl Tryz.results8 Tryz.ntmps8 (by kernel_rfl) (by kernel_rfl) ?_
  intro args H v h hargs hH
  unfold s_fdo1 at h
  split at h
  · rename_i h0 l
    split at h <;> try (simp at h; done)
    rename_i hc
    simp only [Option.some.injEq] at h
    subst h
    refine ⟨by simp only [List.length_cons, List.length_nil]; decide, rfl, ?_⟩
    obtain ⟨l1, l2⟩ := hc
    have lt : l.take 19 = l := List.take_of_length_le (by omega)
    have my := fun X => s_fmay1_nil (H := H ++ X) (h := h0) l1 l2
    (try simp (config := { maxSteps := 10000000 }) only [go_sem, seval, l1, l2, lt, my]; repeat (simp (disch := omega) only [w64_d, ipos, ineg, dpos, dneg]; try simp (config := { maxSteps := 10000000 }) only [go_sem, seval, l1, l2, lt, my]))
    exact ⟨rfl, subH_app _ _⟩
  · rename_i p h0 k a x c s r
    split at h <;> try (simp at h; done)
    rename_i id off v N B n c1 c2 c3 rr hx ho
    split at h <;> try (simp at h; done)
    rename_i hc
    obtain ⟨hB, rfl, rfl, rfl, lr, ⟨rp, ro⟩, hh, n0, n1⟩ := hc
    simp only [Option.some.injEq] at h
    subst h
    refine ⟨by simp only [List.length_cons, List.length_nil]; decide, rfl, ?_⟩
    have hh' := hh
    rw [hasF_iff] at hh'
    have b0 : 0 < B.length := by omega
    have rt : r.take 14 = r := List.take_of_length_le (by omega)
    have hX : ∀ X, hg (H ++ X) p = .own (.i n :: .i c1 :: .i c2 :: .i c3 :: rr) := fun X => by rw [hg_lt' (hg_lt (by rw [ho]; rfl)), ho]
    have my := fun X => s_fmay1_eq (wdR_app hx b0 X) (hX X) hB lr rp ro hh n0 n1 (x := x)
    have mm := fun X => s_fmem1_eq (wdR_app hx b0 X) hB lr ro hh (x := x) (h := h0)
    have gr : s_fgrp1 [.c (.i 2)] = some (.c (.i 1)) := rfl
    have al := ansF_l (ld8 B a)
    have a1 := ansF_one (ld8 B a)
    have at' : (ansF (ld8 B a)).take 42 = ansF (ld8 B a) := rfl
    have ad : ∀ T : List Sc, T.length = 42 → T.drop 42 = [] := fun T hT => List.drop_of_length_le (by omega)
    generalize ansF (ld8 B a) = Q at *
    (try simp (config := { maxSteps := 10000000 }) only [go_sem, seval, lr, ro, rt, my, mm, gr, al, a1, at']; repeat (simp (disch := omega) only [w64_d, ipos, ineg, dpos, dneg]; try simp (config := { maxSteps := 10000000 }) only [go_sem, seval, lr, ro, rt, my, mm, gr, al, a1, at']))
    exact subH_app _ _
  · simp at h
end
end
end Go.Proofs.YtcbhelkafelofaaGreat
