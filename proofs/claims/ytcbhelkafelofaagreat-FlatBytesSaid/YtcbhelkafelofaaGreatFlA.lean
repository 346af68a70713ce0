/- Layer 32: a world that isn't there; one load: contracts. -/
import Derived.Test.YtcbhelkafelofaaGreatFl9
namespace Go.Proofs.YtcbhelkafelofaaGreat
open Go.Am
set_option linter.unusedSimpArgs false
set_option linter.unusedVariables false
noncomputable section
set_option maxRecDepth 100000

def s_fresv0 (args : List AV) : Option AV :=
  match args with
  | [.c .nilp, .c (.i n)] => some (.t [.c (.u 0#64), .c (.b false)])
  | _ => none
theorem s_fresv0_eq {n} : s_fresv0 [.c .nilp, .c (.i n)] = some (.t [.c (.u 0#64), .c (.b false)]) := rfl
set_option maxRecDepth 100000 in
set_option maxHeartbeats 2000000 in
theorem ok_fresv0 : PuOk Tryz.prog 6 s_fresv0 := by
  refine pu_ok (tab := []) hmix TabOk.nil Tryz.func6 rfl Tryz.results6 Tryz.ntmps6 (by kernel_rfl) (by kernel_rfl) ?_
  intro args v h
  unfold s_fresv0 at h
  split at h
  · rename_i n
    simp only [Option.some.injEq] at h; subst h
    refine ⟨by simp only [List.length_cons, List.length_nil]; decide, rfl, rfl, ?_⟩
    (try simp (config := { maxSteps := 10000000 }) only [go_sem, seval]; repeat (simp (disch := omega) only [w64_d, ipos, ineg, dpos, dneg]; try simp (config := { maxSteps := 10000000 }) only [go_sem, seval]))
  · simp at h
def s_fbus0 (args : List AV) : Option AV :=
  match args with
  | [.c .nilp] => some (.c .nilp)
  | _ => none
theorem s_fbus0_eq : s_fbus0 [.c .nilp] = some (.c .nilp) := rfl
set_option maxRecDepth 100000 in
set_option maxHeartbeats 2000000 in
theorem ok_fbus0 : PuOk Tryz.prog 11 s_fbus0 := by
  refine pu_ok (tab := []) hmix TabOk.nil Tryz.func11 rfl Tryz.results11 Tryz.ntmps11 (by kernel_rfl) (by kernel_rfl) ?_
  intro args v h
  unfold s_fbus0 at h
  split at h
  · simp only [Option.some.injEq] at h; subst h
    refine ⟨by simp only [List.length_cons, List.length_nil]; decide, rfl, rfl, ?_⟩
    (try simp (config := { maxSteps := 10000000 }) only [go_sem, seval]; repeat (simp (disch := omega) only [w64_d, ipos, ineg, dpos, dneg]; try simp (config := { maxSteps := 10000000 }) only [go_sem, seval]))
  · simp at h
def s_fclo0 (args : List AV) : Option AV :=
  match args with
  | [.c .nilp] => some (.c .nilp)
  | _ => none
theorem s_fclo0_eq : s_fclo0 [.c .nilp] = some (.c .nilp) := rfl
set_option maxRecDepth 100000 in
set_option maxHeartbeats 2000000 in
theorem ok_fclo0 : PuOk Tryz.prog 12 s_fclo0 := by
  refine pu_ok (tab := []) hmix TabOk.nil Tryz.func12 rfl Tryz.results12 Tryz.ntmps12 (by kernel_rfl) (by kernel_rfl) ?_
  intro args v h
  unfold s_fclo0 at h
  split at h
  · simp only [Option.some.injEq] at h; subst h
    refine ⟨by simp only [List.length_cons, List.length_nil]; decide, rfl, rfl, ?_⟩
    (try simp (config := { maxSteps := 10000000 }) only [go_sem, seval]; repeat (simp (disch := omega) only [w64_d, ipos, ineg, dpos, dneg]; try simp (config := { maxSteps := 10000000 }) only [go_sem, seval]))
  · simp at h
def s_fsame0 (args : List AV) : Option AV :=
  match args with
  | [.c .nilp, .c .nilp] => some (.c (.b true))
  | _ => none
theorem s_fsame0_eq : s_fsame0 [.c .nilp, .c .nilp] = some (.c (.b true)) := rfl
set_option maxRecDepth 100000 in
set_option maxHeartbeats 2000000 in
theorem ok_fsame0 : PuOk Tryz.prog 13 s_fsame0 := by
  refine pu_ok (tab := []) hmix TabOk.nil Tryz.func13 rfl Tryz.results13 Tryz.ntmps13 (by kernel_rfl) (by kernel_rfl) ?_
  intro args v h
  unfold s_fsame0 at h
  split at h
  · simp only [Option.some.injEq] at h; subst h
    refine ⟨by simp only [List.length_cons, List.length_nil]; decide, rfl, rfl, ?_⟩
    (try simp (config := { maxSteps := 10000000 }) only [go_sem, seval]; repeat (simp (disch := omega) only [w64_d, ipos, ineg, dpos, dneg]; try simp (config := { maxSteps := 10000000 }) only [go_sem, seval]))
  · simp at h
def s_fconf0 (args : List AV) : Option AV :=
  match args with
  | [.c .nilp] => some (.g [.i 0, .i 0, .i 0, .i 0])
  | _ => none
theorem s_fconf0_eq : s_fconf0 [.c .nilp] = some (.g [.i 0, .i 0, .i 0, .i 0]) := rfl
set_option maxRecDepth 100000 in
set_option maxHeartbeats 2000000 in
theorem ok_fconf0 : PuOk Tryz.prog 14 s_fconf0 := by
  refine pu_ok (tab := []) hmix TabOk.nil Tryz.func14 rfl Tryz.results14 Tryz.ntmps14 (by kernel_rfl) (by kernel_rfl) ?_
  intro args v h
  unfold s_fconf0 at h
  split at h
  · simp only [Option.some.injEq] at h; subst h
    refine ⟨by simp only [List.length_cons, List.length_nil]; decide, rfl, rfl, ?_⟩
    (try simp (config := { maxSteps := 10000000 }) only [go_sem, seval]; repeat (simp (disch := omega) only [w64_d, ipos, ineg, dpos, dneg]; try simp (config := { maxSteps := 10000000 }) only [go_sem, seval]))
  · simp at h
def s_fknown (args : List AV) : Option AV :=
  match args with
  | [.c (.i k)] => if k = 2 then some (.c (.b true)) else none
  | _ => none
theorem s_fknown_eq {k} : s_fknown [.c (.i k)] = if k = 2 then some (.c (.b true)) else none := rfl
set_option maxRecDepth 100000 in
set_option maxHeartbeats 2000000 in
theorem ok_fknown : PuOk Tryz.prog 62 s_fknown := by
  refine pu_ok (tab := []) hmix TabOk.nil Tryz.func62 rfl Tryz.results62 Tryz.ntmps62 (by kernel_rfl) (by kernel_rfl) ?_
  intro args v h
  unfold s_fknown at h
  split at h
  · rename_i k
    split at h
    · rename_i hc
      simp only [Option.some.injEq] at h; subst h
      refine ⟨by simp only [List.length_cons, List.length_nil]; decide, rfl, rfl, ?_⟩
      subst hc
      (try simp (config := { maxSteps := 10000000 }) only [go_sem, seval]; repeat (simp (disch := omega) only [w64_d, ipos, ineg, dpos, dneg]; try simp (config := { maxSteps := 10000000 }) only [go_sem, seval]))
    · simp at h
  · simp at h
def s_fgrp1 (args : List AV) : Option AV :=
  match args with
  | [.c (.i k)] => if k = 2 then some (.c (.i 1)) else none
  | _ => none
theorem s_fgrp1_eq {k} : s_fgrp1 [.c (.i k)] = if k = 2 then some (.c (.i 1)) else none := rfl
set_option maxRecDepth 100000 in
set_option maxHeartbeats 2000000 in
theorem ok_fgrp1 : PuOk Tryz.prog 32 s_fgrp1 := by
  refine pu_ok (tab := [(62, .pu s_fknown)]) hmix (TabOk.cons (e := .pu s_fknown) ok_fknown TabOk.nil) Tryz.func32 rfl Tryz.results32 Tryz.ntmps32 (by kernel_rfl) (by kernel_rfl) ?_
  intro args v h
  unfold s_fgrp1 at h
  split at h
  · rename_i k
    split at h
    · rename_i hc
      simp only [Option.some.injEq] at h; subst h
      refine ⟨by simp only [List.length_cons, List.length_nil]; decide, rfl, rfl, ?_⟩
      subst hc
      have e : s_fknown [.c (.i 2)] = some (.c (.b true)) := rfl
      (try simp (config := { maxSteps := 10000000 }) only [go_sem, seval, e]; repeat (simp (disch := omega) only [w64_d, ipos, ineg, dpos, dneg]; try simp (config := { maxSteps := 10000000 }) only [go_sem, seval, e]))
    · simp at h
  · simp at h
def s_fshp1 (args : List AV) : Option AV :=
  match args with
  | [.g (.i k :: .u a :: .u x :: .i c :: .i s :: r)] => if k = 2 ∧ c = 0 ∧ s = 8 ∧ r.length = 14 ∧ r.all Sc.pf = true ∧ r.all Sc.one = true then some (.c (.b true)) else none
  | _ => none
theorem s_fshp1_eq {k a x c s r} : s_fshp1 [.g (.i k :: .u a :: .u x :: .i c :: .i s :: r)] = if k = 2 ∧ c = 0 ∧ s = 8 ∧ r.length = 14 ∧ r.all Sc.pf = true ∧ r.all Sc.one = true then some (.c (.b true)) else none := rfl
set_option maxRecDepth 100000 in
set_option maxHeartbeats 2000000 in
theorem ok_fshp1 : PuOk Tryz.prog 40 s_fshp1 := by
  refine pu_ok (tab := []) hmix TabOk.nil Tryz.func40 rfl Tryz.results40 Tryz.ntmps40 (by kernel_rfl) (by kernel_rfl) ?_
  intro args v h
  unfold s_fshp1 at h
  split at h
  · rename_i k a x c s r
    split at h
    · rename_i hc
      simp only [Option.some.injEq] at h; subst h
      have pr := hc.2.2.2.2.1
      refine ⟨by simp only [List.length_cons, List.length_nil]; decide, by first | rfl | simp only [List.all_cons, List.all_nil, AV.pf, Sc.pf, Bool.and_true, *], by first | rfl | simp only [List.all_cons, List.all_nil, AV.pf, Sc.pf, Bool.and_true, *], ?_⟩
      obtain ⟨rfl, rfl, rfl, lr, pr, ro⟩ := hc
      have rt : r.take 14 = r := List.take_of_length_le (by omega)
      (try simp (config := { maxSteps := 10000000 }) only [go_sem, seval, lr, ro, rt]; repeat (simp (disch := omega) only [w64_d, ipos, ineg, dpos, dneg]; try simp (config := { maxSteps := 10000000 }) only [go_sem, seval, lr, ro, rt]))
    · simp at h
  · simp at h
section
variable {H : AH}
theorem cut_lt {id off v N : Nat} {B : List Int} (h : cutF H (.sl id off v N) = some B) (h0 : 0 < B.length) : id < H.length := by
  obtain ⟨_, e, h1, _⟩ := cut_cell h
  rcases Nat.lt_or_ge id H.length with c | c
  · exact c
  · rw [hg_ge _ c] at h1
    simp only [AObj.cells, List.length_nil] at h1
    omega
theorem cut_app {id off v N : Nat} {B : List Int} (h : cutF H (.sl id off v N) = some B) (h0 : 0 < B.length) (X : AH) : cutF (H ++ X) (.sl id off v N) = some B := by
  rw [← h]
  unfold cutF
  simp only [hg_lt' (X := X) (cut_lt h h0)]
theorem wdR_app {p id off v N : Nat} {B : List Int} (h : wdR H p = some (.sl id off v N, B)) (h0 : 0 < B.length) (X : AH) : wdR (H ++ X) p = some (.sl id off v N, B) := by
  obtain ⟨c1, c2, c3, c4, r', ho, hcut⟩ := wdR_inv h
  unfold wdR
  simp only [hg_lt' (X := X) (hg_lt (H := H) (i := p) (by rw [ho]; rfl)), ho, cut_app hcut h0 X, Option.map_some]
def s_fhart (args : List AV) (H : AH) : Option AV :=
  match args with
  | [.c (.p p 0 0), .c (.i h)] =>
    match hg H p with
    | .own (.i n :: .i _ :: .i _ :: .i _ :: _) => some (.c (.b (decide (0 ≤ h) && decide (h < n))))
    | _ => none
  | _ => none
set_option maxRecDepth 100000 in
set_option maxHeartbeats 2000000 in
theorem ok_fhart : FpOk Tryz.prog 31 (fun args H => (s_fhart args H).map fun v => (v, H)) := by
  refine fq_ok (s := s_fhart) (tab := []) hmix TabOk.nil Tryz.func31 rfl Tryz.results31 Tryz.ntmps31 (by kernel_rfl) (by kernel_rfl) ?_
  intro args H v h hargs hH
  unfold s_fhart at h
  split at h <;> try (simp at h; done)
  rename_i p h0
  split at h <;> try (simp at h; done)
  rename_i n c1 c2 c3 r ho
  simp only [Option.some.injEq] at h
  subst h
  refine ⟨by simp only [List.length_cons, List.length_nil]; decide, rfl, ?_⟩
  by_cases g : 0 ≤ h0
  · by_cases g2 : h0 < n
    · (try simp (config := { maxSteps := 10000000 }) only [go_sem, seval, ho, g, g2]; repeat (simp (disch := omega) only [w64_d, ipos, ineg, dpos, dneg]; try simp (config := { maxSteps := 10000000 }) only [go_sem, seval, ho, g, g2]))
      exact subH_refl _
    · (try simp (config := { maxSteps := 10000000 }) only [go_sem, seval, ho, g, g2]; repeat (simp (disch := omega) only [w64_d, ipos, ineg, dpos, dneg]; try simp (config := { maxSteps := 10000000 }) only [go_sem, seval, ho, g, g2]))
      exact subH_refl _
  · (try simp (config := { maxSteps := 10000000 }) only [go_sem, seval, g]; repeat (simp (disch := omega) only [w64_d, ipos, ineg, dpos, dneg]; try simp (config := { maxSteps := 10000000 }) only [go_sem, seval, g]))
    exact subH_refl _
noncomputable def s_fpart1 (args : List AV) (H : AH) : Option AV :=
  match args with
  | [.c (.p p 0 0), .g (.i k :: .u a :: .u x :: .i c :: .i s :: r)] =>
    match wdR H p with
    | some (.sl id off v N, B) => if B.length ≤ 262144 ∧ c = 0 ∧ s = 8 ∧ r.length = 14 ∧ r.all Sc.one = true ∧ hasF B.length a 8 = true then some (.t [.c (.sl id (off + ofF a) v 8), .c .nils, .c (.b true)]) else none
    | _ => none
  | _ => none
theorem s_fpart1_eq {p id off v N : Nat} {B : List Int} {k : Int} {a x : BitVec 64} {r : List Sc} (h : wdR H p = some (.sl id off v N, B)) (h1 : B.length ≤ 262144) (h2 : r.length = 14) (h3 : r.all Sc.one = true) (h4 : hasF B.length a 8 = true) :
    s_fpart1 [.c (.p p 0 0), .g (.i k :: .u a :: .u x :: .i 0 :: .i 8 :: r)] H = some (.t [.c (.sl id (off + ofF a) v 8), .c .nils, .c (.b true)]) := by
  simp only [s_fpart1, h]; rw [if_pos ⟨h1, trivial, trivial, h2, h3, h4⟩]
set_option maxRecDepth 100000 in
set_option maxHeartbeats 2000000 in
theorem ok_fpart1 : FpOk Tryz.prog 41 (fun args H => (s_fpart1 args H).map fun v => (v, H)) := by
  refine fq_ok (s := s_fpart1) (tab := [(29, .fq s_fspot)]) hmix (TabOk.cons (e := .fq s_fspot) ok_fspot TabOk.nil) Tryz.func41 rfl Tryz.results41 Tryz.ntmps41 (by kernel_rfl) (by kernel_rfl) ?_
  intro args H v h hargs hH
  unfold s_fpart1 at h
  split at h <;> try (simp at h; done)
  rename_i p k a x c s r
  split at h <;> try (simp at h; done)
  rename_i id off v N B hx
  split at h <;> try (simp at h; done)
  rename_i hc
  obtain ⟨hB, rfl, rfl, lr, ro, hh⟩ := hc
  simp only [Option.some.injEq] at h
  subst h
  simp only [List.all_cons, AV.bel, Bool.and_eq_true] at hargs
  obtain ⟨c1, c2, c3, c4, r', ho, hcut⟩ := wdR_inv hx
  have b0 : 0 < B.length := by rw [hasF_iff] at hh; omega
  have lid := cut_lt hcut b0
  refine ⟨by simp only [List.length_cons, List.length_nil]; decide, by simp [AV.bel, Sc.bel, lid], ?_⟩
  have rt : r.take 14 = r := List.take_of_length_le (by omega)
  have sp := fun X => s_fspot_eq (H := H ++ X) (p := p) (x := .sl id off v N) (B := B) (a := a) (n := 8) (wdR_app hx b0 X) hB (by decide)
  simp only [hh, if_true] at sp
  rw [hasF_iff] at hh
  obtain ⟨_, rfl, _, _⟩ := cut_cell hcut
  have hX : ∀ X, hg (H ++ X) p = .own (.i c1 :: .i c2 :: .i c3 :: .i c4 :: .sl id off v B.length :: r') := fun X => by rw [hg_lt' (hg_lt (by rw [ho]; rfl)), ho]
  have w1 : w64 ((ofF a : Int) + 8) = ((ofF a + 8 : Nat) : Int) := by rw [w64_d (by omega) (by omega)]; omega
  have q1 : (0 : Int) ≤ (ofF a : Int) := by omega
  have q2 : (ofF a : Int) < ((ofF a + 8 : Nat) : Int) := by omega
  have q3 : ((ofF a + 8 : Nat) : Int) ≤ ((ofF a + 8 : Nat) : Int) := Int.le_refl _
  have q4 : ((ofF a + 8 : Nat) : Int) ≤ (B.length : Int) := by omega
  have q5 : ofF a + 8 - ofF a = 8 := Nat.add_sub_cancel_left ..
  (try simp (config := { maxSteps := 10000000 }) only [go_sem, seval, lr, ro, rt, sp, hX, w1, q1, q2, q3, q4, q5, Int.toNat_natCast]; repeat (simp (disch := omega) only [w64_d, ipos, ineg, dpos, dneg]; try simp (config := { maxSteps := 10000000 }) only [go_sem, seval, lr, ro, rt, sp, hX, w1, q1, q2, q3, q4, q5, Int.toNat_natCast]))
  exact subH_app _ _
end
end
end Go.Proofs.YtcbhelkafelofaaGreat
