/- Layer 32: one load, answered: contracts. -/
import Derived.Test.YtcbhelkafelofaaGreatFlA
namespace Go.Proofs.YtcbhelkafelofaaGreat
open Go.Am
set_option linter.unusedSimpArgs false
set_option linter.unusedVariables false
noncomputable section
set_option maxRecDepth 100000

def ansF (v : BitVec 64) : List Sc := .u v :: .b false :: rowC row0
theorem ansF_l (v : BitVec 64) : (ansF v).length = 42 := rfl
theorem ansF_one (v : BitVec 64) : (ansF v).all Sc.one = true := rfl
noncomputable def ld8 (B : List Int) (a : BitVec 64) : BitVec 64 := numW ((B.drop (offW a)).take 8)
section
variable {H : AH}
noncomputable def s_fmem1 (args : List AV) (H : AH) : Option AV :=
  match args with
  | [.c (.p p 0 0), .c (.i _), .g (.i k :: .u a :: .u x :: .i c :: .i s :: r)] =>
    match wdR H p with
    | some (.sl id off v N, B) => if B.length ≤ 262144 ∧ k = 2 ∧ c = 0 ∧ s = 8 ∧ r.length = 14 ∧ r.all Sc.one = true ∧ hasF B.length a 8 = true then some (.g (ansF (ld8 B a))) else none
    | _ => none
  | _ => none
theorem s_fmem1_eq {p id off v N : Nat} {B : List Int} {h : Int} {a x : BitVec 64} {r : List Sc} (hw : wdR H p = some (.sl id off v N, B)) (h1 : B.length ≤ 262144) (h2 : r.length = 14) (h3 : r.all Sc.one = true) (h4 : hasF B.length a 8 = true) :
    s_fmem1 [.c (.p p 0 0), .c (.i h), .g (.i 2 :: .u a :: .u x :: .i 0 :: .i 8 :: r)] H = some (.g (ansF (ld8 B a))) := by
  simp only [s_fmem1, hw]; rw [if_pos ⟨h1, trivial, trivial, trivial, h2, h3, h4⟩]
set_option maxRecDepth 100000 in
set_option maxHeartbeats 2000000 in
theorem ok_fmem1 : FpOk Tryz.prog 33 (fun args H => (s_fmem1 args H).map fun v => (v, H)) := by
  refine fq_ok (s := s_fmem1) (tab := [(41, .fq s_fpart1), (30, .fq s_fnum)]) hmix (TabOk.cons (e := .fq s_fpart1) ok_fpart1 (TabOk.cons (e := .fq s_fnum) ok_fnum TabOk.nil)) Tryz.func33 rfl Tryz.results33 Tryz.ntmps33 (by kernel_rfl) (by kernel_rfl) ?_
  intro args H v h hargs hH
  unfold s_fmem1 at h
  split at h <;> try (simp at h; done)
  rename_i p h0 k a x c s r
  split at h <;> try (simp at h; done)
  rename_i id off v N B hx
  split at h <;> try (simp at h; done)
  rename_i hc
  obtain ⟨hB, rfl, rfl, rfl, lr, ro, hh⟩ := hc
  simp only [Option.some.injEq] at h
  subst h
  obtain ⟨c1, c2, c3, c4, r', ho, hcut⟩ := wdR_inv hx
  have hh' := hh
  rw [hasF_iff] at hh'
  have b0 : 0 < B.length := by omega
  refine ⟨by simp only [List.length_cons, List.length_nil]; decide, rfl, ?_⟩
  have rt : r.take 14 = r := List.take_of_length_le (by omega)
  have pt := fun X => s_fpart1_eq (wdR_app hx b0 X) hB lr ro hh (k := 2) (x := x)
  have fn := fun X => s_fnum_eq (H := H ++ X) (cutF_sub (cut_app hcut b0 X) (a := offW a) (n := 8) (by omega)) (show cutF (H ++ X) .nils = some [] from rfl) (by rw [List.length_take]; omega) (by simp)
  simp only [List.append_nil] at fn
  (try simp (config := { maxSteps := 10000000 }) only [go_sem, seval, lr, ro, rt, pt, fn]; repeat (simp (disch := omega) only [w64_d, ipos, ineg, dpos, dneg]; try simp (config := { maxSteps := 10000000 }) only [go_sem, seval, lr, ro, rt, pt, fn]))
  exact ⟨rfl, subH_app _ _⟩
noncomputable def s_fmay1 (args : List AV) (H : AH) : Option AV :=
  match args with
  | [.c .nilp, .c (.i _), .g l] => if l.length = 19 ∧ l.all Sc.one = true then some (.c (.b false)) else none
  | [.c (.p p 0 0), .c (.i h), .g (.i k :: .u a :: .u x :: .i c :: .i s :: r)] =>
    match wdR H p, hg H p with
    | some (.sl id off v N, B), .own (.i n :: .i _ :: .i _ :: .i _ :: _) => if B.length ≤ 262144 ∧ k = 2 ∧ c = 0 ∧ s = 8 ∧ r.length = 14 ∧ (r.all Sc.pf = true ∧ r.all Sc.one = true) ∧ hasF B.length a 8 = true ∧ 0 ≤ h ∧ h < n then some (.c (.b true)) else none
    | _, _ => none
  | _ => none
set_option maxRecDepth 100000 in
set_option maxHeartbeats 2000000 in
theorem ok_fmay1 : FpOk Tryz.prog 15 (fun args H => (s_fmay1 args H).map fun v => (v, H)) := by
  refine fq_ok (s := s_fmay1) (tab := [(32, .pu s_fgrp1), (31, .fq s_fhart), (40, .pu s_fshp1), (41, .fq s_fpart1)]) hmix (TabOk.cons (e := .pu s_fgrp1) ok_fgrp1 (TabOk.cons (e := .fq s_fhart) ok_fhart (TabOk.cons (e := .pu s_fshp1) ok_fshp1 (TabOk.cons (e := .fq s_fpart1) ok_fpart1 TabOk.nil)))) Tryz.func15 rfl Tryz.results15 Tryz.ntmps15 (by kernel_rfl) (by kernel_rfl) ?_
  intro args H v h hargs hH
  unfold s_fmay1 at h
  split at h
  · rename_i h0 l
    split at h <;> try (simp at h; done)
    rename_i hc
    simp only [Option.some.injEq] at h
    subst h
    refine ⟨by simp only [List.length_cons, List.length_nil]; decide, rfl, ?_⟩
    obtain ⟨l1, l2⟩ := hc
    have lt : l.take 19 = l := List.take_of_length_le (by omega)
    (try simp (config := { maxSteps := 10000000 }) only [go_sem, seval, l1, l2, lt]; repeat (simp (disch := omega) only [w64_d, ipos, ineg, dpos, dneg]; try simp (config := { maxSteps := 10000000 }) only [go_sem, seval, l1, l2, lt]))
    exact subH_app _ _
  · rename_i p h0 k a x c s r
    split at h <;> try (simp at h; done)
    rename_i id off v N B n c1 c2 c3 rr hx ho
    split at h <;> try (simp at h; done)
    rename_i hc
    obtain ⟨hB, rfl, rfl, rfl, lr, ⟨rp, ro⟩, hh, n0, n1⟩ := hc
    simp only [Option.some.injEq] at h
    subst h
    refine ⟨by simp only [List.length_cons, List.length_nil]; decide, rfl, ?_⟩
    have hh' := hh
    rw [hasF_iff] at hh'
    have b0 : 0 < B.length := by omega
    have rt : r.take 14 = r := List.take_of_length_le (by omega)
    have pt := fun X => s_fpart1_eq (wdR_app hx b0 X) hB lr ro hh (k := 2) (x := x)
    have hX : ∀ X, hg (H ++ X) p = .own (.i n :: .i c1 :: .i c2 :: .i c3 :: rr) := fun X => by rw [hg_lt' (hg_lt (by rw [ho]; rfl)), ho]
    have ht : ∀ X, s_fhart [.c (.p p 0 0), .c (.i h0)] (H ++ X) = some (.c (.b true)) := fun X => by
      simp only [s_fhart, hX]
      rw [decide_eq_true n0, decide_eq_true n1]; rfl
    have gr : s_fgrp1 [.c (.i 2)] = some (.c (.i 1)) := rfl
    have sh : s_fshp1 [.g (.i 2 :: .u a :: .u x :: .i 0 :: .i 8 :: r)] = some (.c (.b true)) := by
      simp only [s_fshp1]; rw [if_pos ⟨trivial, trivial, trivial, lr, rp, ro⟩]
    (try simp (config := { maxSteps := 10000000 }) only [go_sem, seval, lr, ro, rt, pt, ht, gr, sh]; repeat (simp (disch := omega) only [w64_d, ipos, ineg, dpos, dneg]; try simp (config := { maxSteps := 10000000 }) only [go_sem, seval, lr, ro, rt, pt, ht, gr, sh]))
    exact subH_app _ _
  · simp at h
theorem s_fmay1_nil {h : Int} {l : List Sc} (h1 : l.length = 19) (h2 : l.all Sc.one = true) : s_fmay1 [.c .nilp, .c (.i h), .g l] H = some (.c (.b false)) := by
  simp only [s_fmay1]; rw [if_pos ⟨h1, h2⟩]
theorem s_fmay1_eq {p id off v N : Nat} {B : List Int} {n c1 c2 c3 h : Int} {rr : List Sc} {a x : BitVec 64} {r : List Sc} (hw : wdR H p = some (.sl id off v N, B)) (ho : hg H p = .own (.i n :: .i c1 :: .i c2 :: .i c3 :: rr)) (h1 : B.length ≤ 262144) (h2 : r.length = 14) (hp : r.all Sc.pf = true) (h3 : r.all Sc.one = true) (h4 : hasF B.length a 8 = true) (n0 : 0 ≤ h) (n1 : h < n) :
    s_fmay1 [.c (.p p 0 0), .c (.i h), .g (.i 2 :: .u a :: .u x :: .i 0 :: .i 8 :: r)] H = some (.c (.b true)) := by
  simp only [s_fmay1, hw, ho]; rw [if_pos ⟨h1, trivial, trivial, trivial, h2, ⟨hp, h3⟩, h4, n0, n1⟩]
noncomputable def s_fdo1 (args : List AV) (H : AH) : Option AV :=
  match args with
  | [.c .nilp, .c (.i _), .g l] => if l.length = 19 ∧ l.all Sc.one = true then some (.t [.g (ansF 0#64), .c (.b false)]) else none
  | [.c (.p p 0 0), .c (.i h), .g (.i k :: .u a :: .u x :: .i c :: .i s :: r)] =>
    match wdR H p, hg H p with
    | some (.sl id off v N, B), .own (.i n :: .i _ :: .i _ :: .i _ :: _) => if B.length ≤ 262144 ∧ k = 2 ∧ c = 0 ∧ s = 8 ∧ r.length = 14 ∧ (r.all Sc.pf = true ∧ r.all Sc.one = true) ∧ hasF B.length a 8 = true ∧ 0 ≤ h ∧ h < n then some (.t [.g (ansF (ld8 B a)), .c (.b true)]) else none
    | _, _ => none
  | _ => none
set_option maxRecDepth 100000 in
set_option maxHeartbeats 2000000 in
theorem ok_fdo1 : FpOk Tryz.prog 8 (fun args H => (s_fdo1 args H).map fun v => (v, H)) := by
  refine fq_ok (s := s_fdo1) (tab := [(15, .fq s_fmay1), (32, .pu s_fgrp1), (33, .fq s_fmem1)]) hmix (TabOk.cons (e := .fq s_fmay1) ok_fmay1 (TabOk.cons (e := .pu s_fgrp1) ok_fgrp1 (TabOk.cons (e := .fq s_fmem1) ok_fmem1 TabOk.nil))) Tryz.func8 rfl Tryz.results8 Tryz.ntmps8 (by kernel_rfl) (by kernel_rfl) ?_
  intro args H v h hargs hH
  unfold s_fdo1 at h
  split at h
  · rename_i h0 l
    split at h <;> try (simp at h; done)
    rename_i hc
    simp only [Option.some.injEq] at h
    subst h
    refine ⟨by simp only [List.length_cons, List.length_nil]; decide, rfl, ?_⟩
    obtain ⟨l1, l2⟩ := hc
    have lt : l.take 19 = l := List.take_of_length_le (by omega)
    have my := fun X => s_fmay1_nil (H := H ++ X) (h := h0) l1 l2
    (try simp (config := { maxSteps := 10000000 }) only [go_sem, seval, l1, l2, lt, my]; repeat (simp (disch := omega) only [w64_d, ipos, ineg, dpos, dneg]; try simp (config := { maxSteps := 10000000 }) only [go_sem, seval, l1, l2, lt, my]))
    exact ⟨rfl, subH_app _ _⟩
  · rename_i p h0 k a x c s r
    split at h <;> try (simp at h; done)
    rename_i id off v N B n c1 c2 c3 rr hx ho
    split at h <;> try (simp at h; done)
    rename_i hc
    obtain ⟨hB, rfl, rfl, rfl, lr, ⟨rp, ro⟩, hh, n0, n1⟩ := hc
    simp only [Option.some.injEq] at h
    subst h
    refine ⟨by simp only [List.length_cons, List.length_nil]; decide, rfl, ?_⟩
    have hh' := hh
    rw [hasF_iff] at hh'
    have b0 : 0 < B.length := by omega
    have rt : r.take 14 = r := List.take_of_length_le (by omega)
    have hX : ∀ X, hg (H ++ X) p = .own (.i n :: .i c1 :: .i c2 :: .i c3 :: rr) := fun X => by rw [hg_lt' (hg_lt (by rw [ho]; rfl)), ho]
    have my := fun X => s_fmay1_eq (wdR_app hx b0 X) (hX X) hB lr rp ro hh n0 n1 (x := x)
    have mm := fun X => s_fmem1_eq (wdR_app hx b0 X) hB lr ro hh (x := x) (h := h0)
    have gr : s_fgrp1 [.c (.i 2)] = some (.c (.i 1)) := rfl
    have al := ansF_l (ld8 B a)
    have a1 := ansF_one (ld8 B a)
    have at' : (ansF (ld8 B a)).take 42 = ansF (ld8 B a) := rfl
    have ad : ∀ T : List Sc, T.length = 42 → T.drop 42 = [] := fun T hT => List.drop_of_length_le (by omega)
    generalize ansF (ld8 B a) = Q at *
    (try simp (config := { maxSteps := 10000000 }) only [go_sem, seval, lr, ro, rt, my, mm, gr, al, a1, at']; repeat (simp (disch := omega) only [w64_d, ipos, ineg, dpos, dneg]; try simp (config := { maxSteps := 10000000 }) only [go_sem, seval, lr, ro, rt, my, mm, gr, al, a1, at']))
    exact subH_app _ _
  · simp at h
end
end
end Go.Proofs.YtcbhelkafelofaaGreat
namespace Go.Proofs.YtcbhelkafelofaaGreat
open Go.Am
set_option linter.unusedSimpArgs false
set_option linter.unusedVariables false
noncomputable section
set_option maxRecDepth 100000

def rLq : List Sc := [.i 0, .u 0#64, .u 0#64, .b false, .i 0, .b false, .b false, .b false, .u 0#64, .i 0, .i 0, .u 0#64, .i 0, .u 0#64]
def lqC : List Sc := .i 2 :: .u 2147483648#64 :: .u 0#64 :: .i 0 :: .i 8 :: rLq
def evC (w : BitVec 64) : List Sc := .i 0 :: (lqC ++ (ansF w ++ [.i 0, .i 0, .i 0]))
theorem ans_ne (q : BitVec 64) : abin Tryz.prog .neq 34 (.g (ansF q)) (.g (ansF 5#64)) = some (.c (.b (!decide (q = 5#64)))) := by
  have gT : tagsT Tryz.prog 12 34 = some (Tg.n :: Tg.q :: (List.replicate 8 [Tg.q, .q, .q, .n, .n]).flatten) := by kernel_rfl
  rw [ab_g_neq _ (by kernel_rfl) gT]
  have h : csEq (List.replicate 8 [Tg.q, .q, .q, .n, .n]).flatten (rowC row0) (rowC row0) = some true := by kernel_rfl
  have : csEq (Tg.n :: Tg.q :: (List.replicate 8 [Tg.q, .q, .q, .n, .n]).flatten) (ansF q) (ansF 5#64) = some (decide (q = 5#64)) := by
    unfold ansF
    simp only [csEq, h, scEq]
    by_cases c : q = 5#64 <;> simp [c]
  rw [this]; rfl
section
variable {H : AH}
open Classical in
noncomputable def s_freplay (args : List AV) (H : AH) : Option AV :=
  match args with
  | [.c .nilp, .c _] => some (.t [.c (.i 0), .c (.b false)])
  | [.c (.p p 0 0), .c (.sl e 0 v n)] =>
    match wdR H p, hg H p with
    | some (.sl id off u N, B), .own (.i m :: .i _ :: .i _ :: .i _ :: _) =>
      if B.length ≤ 262144 ∧ hasF B.length 2147483648#64 8 = true ∧ 0 < m ∧ n = 1 ∧ v = 65 ∧ hg H e = .vec 65 (evC 5#64) then some (.t [.c (.i 0), .c (.b (decide (ld8 B 2147483648#64 = 5#64)))]) else none
    | _, _ => none
  | _ => none
theorem s_freplay_eq {p id off u N e : Nat} {B : List Int} {n c1 c2 c3 : Int} {rr : List Sc} (hw : wdR H p = some (.sl id off u N, B)) (ho : hg H p = .own (.i n :: .i c1 :: .i c2 :: .i c3 :: rr)) (h1 : B.length ≤ 262144) (h4 : hasF B.length 2147483648#64 8 = true) (n1 : 0 < n) (he : hg H e = .vec 65 (evC 5#64)) :
    s_freplay [.c (.p p 0 0), .c (.sl e 0 65 1)] H = some (.t [.c (.i 0), .c (.b (decide (ld8 B 2147483648#64 = 5#64)))]) := by
  simp only [s_freplay, hw, ho]; rw [if_pos ⟨h1, h4, n1, rfl, rfl, he⟩]
set_option maxRecDepth 100000 in
set_option maxHeartbeats 2000000 in
theorem ok_freplay : FpOk Tryz.prog 7 (fun args H => (s_freplay args H).map fun v => (v, H)) := by
  refine fq_ok (s := s_freplay) (tab := [(8, .fq s_fdo1)]) hmix (TabOk.cons (e := .fq s_fdo1) ok_fdo1 TabOk.nil) Tryz.func7 rfl Tryz.results7 Tryz.ntmps7 (by kernel_rfl) (by kernel_rfl) ?_
  intro args H v h hargs hH
  unfold s_freplay at h
  split at h
  · simp only [Option.some.injEq] at h
    subst h
    refine ⟨by simp only [List.length_cons, List.length_nil]; decide, rfl, ?_⟩
    (try simp (config := { maxSteps := 10000000 }) only [go_sem, seval]; repeat (simp (disch := omega) only [w64_d, ipos, ineg, dpos, dneg]; try simp (config := { maxSteps := 10000000 }) only [go_sem, seval]))
    exact subH_refl _
  · rename_i p e v n
    split at h <;> try (simp at h; done)
    rename_i id off u N B m c1 c2 c3 rr hx ho
    split at h <;> try (simp at h; done)
    rename_i hc
    obtain ⟨hB, hh, m0, rfl, rfl, he⟩ := hc
    simp only [Option.some.injEq] at h
    subst h
    refine ⟨by simp only [List.length_cons, List.length_nil]; decide, rfl, ?_⟩
    have hh' := hh
    rw [hasF_iff] at hh'
    have b0 : 0 < B.length := by omega
    have le : e < H.length := hg_lt (by rw [he]; rfl)
    have heX : ∀ X, hg (H ++ X) e = .vec 65 (evC 5#64) := fun X => by rw [hg_lt' le, he]
    have hX : ∀ X, hg (H ++ X) p = .own (.i m :: .i c1 :: .i c2 :: .i c3 :: rr) := fun X => by rw [hg_lt' (hg_lt (by rw [ho]; rfl)), ho]
    have my : ∀ X, s_fdo1 [.c (.p p 0 0), .c (.i 0), .g lqC] (H ++ X) = some (.t [.g (ansF (ld8 B 2147483648#64)), .c (.b true)]) := fun X => by
      unfold lqC
      simp only [s_fdo1, wdR_app hx b0 X, hX X]
      rw [if_pos ⟨hB, trivial, trivial, trivial, rfl, ⟨rfl, rfl⟩, hh, Int.le_refl _, m0⟩]
    have e1 : (evC 5#64).length = 65 := rfl
    have e2 : (evC 5#64).take 65 = evC 5#64 := rfl
    have e3 : (evC 5#64).getD 0 .any = .i 0 := rfl
    have e4 : ((evC 5#64).drop 1).take 19 = lqC := rfl
    have e5 : ((evC 5#64).drop 20).take 42 = ansF 5#64 := rfl
    have e6 : (evC 5#64).all Sc.one = true := rfl
    have al := ansF_l (ld8 B 2147483648#64)
    have a1 := ansF_one (ld8 B 2147483648#64)
    have at' : (ansF (ld8 B 2147483648#64)).take 42 = ansF (ld8 B 2147483648#64) := rfl
    generalize ld8 B 2147483648#64 = q at *
    (try simp (config := { maxSteps := 10000000 }) only [go_sem, seval, he, heX, my, e1, e2, e3, e4, e5, e6, al, a1, at']; repeat (simp (disch := omega) only [w64_d, ipos, ineg, dpos, dneg]; try simp (config := { maxSteps := 10000000 }) only [go_sem, seval, he, heX, my, e1, e2, e3, e4, e5, e6, al, a1, at']))
    rw [arun_loop]
    refine ⟨{k : Nat // k ≤ 1 ∧ (k = 1 → q = 5#64)}, fun k => ([(0, .c (.p p 0 0)), (12, .c (.sl e 0 65 1)), (13, .c (.i 1)), (14, .c (.i k.1))], if k.1 = 0 then H else H ++ [.own (evC 5#64), .own (ansF q)]), fun k => 1 - k.1, ⟨0, by omega, by omega⟩, wkF (by simp [Am.get]), ?_⟩
    rintro ⟨k, hk, hq⟩
    rcases (show k = 0 ∨ k = 1 by omega) with rfl | rfl
    · simp only [if_true]
      by_cases c : q = 5#64
      · have c' := eq_true c
        have ab := ans_ne q
        rw [decide_eq_true c] at ab ⊢
        (try simp (config := { maxSteps := 10000000 }) only [go_sem, seval, he, heX, my, e1, e2, e3, e4, e5, e6, al, a1, at', ab]; repeat (simp (disch := omega) only [w64_d, ipos, ineg, dpos, dneg]; try simp (config := { maxSteps := 10000000 }) only [go_sem, seval, he, heX, my, e1, e2, e3, e4, e5, e6, al, a1, at', ab]))
        exact ⟨⟨1, by omega, fun _ => c⟩, by simp only; omega, wkFe rfl (by simp [Am.get])⟩
      · have ab := ans_ne q
        rw [decide_eq_false c] at ab ⊢
        (try simp (config := { maxSteps := 10000000 }) only [go_sem, seval, he, heX, my, e1, e2, e3, e4, e5, e6, al, a1, at', ab]; repeat (simp (disch := omega) only [w64_d, ipos, ineg, dpos, dneg]; try simp (config := { maxSteps := 10000000 }) only [go_sem, seval, he, heX, my, e1, e2, e3, e4, e5, e6, al, a1, at', ab]))
        exact subH_app _ _
    · simp only [Nat.one_ne_zero, if_false]
      rw [decide_eq_true (hq rfl)]
      (try simp (config := { maxSteps := 10000000 }) only [go_sem, seval]; repeat (simp (disch := omega) only [w64_d, ipos, ineg, dpos, dneg]; try simp (config := { maxSteps := 10000000 }) only [go_sem, seval]))
      exact subH_app _ _
  · simp at h
end
end
end Go.Proofs.YtcbhelkafelofaaGreat
namespace Go.Proofs.YtcbhelkafelofaaGreat
open Go.Am
set_option linter.unusedSimpArgs false
set_option linter.unusedVariables false
noncomputable section
set_option maxRecDepth 100000

theorem wdR_of {H : AH} {p id : Nat} {B : List Int} (h : wdV H p = some (id, B)) : wdR H p = some (.sl id 0 B.length B.length, B) := wdV_R h
theorem of_base : offW 2147483648#64 = 0 := by rw [ofF_eq]; rfl
theorem has_base {N : Nat} {n : Int} (h1 : 1 ≤ n) (h2 : n ≤ (N : Int)) : hasF N 2147483648#64 n = true := by
  rw [hasF_iff, of_base]
  refine ⟨h1, Nat.le_refl _, by omega, by omega⟩
theorem rep_e8 (n : Nat) : List.replicate n (Sc.k .u8 0) = (List.replicate n (0 : Int)).flatMap e8F := by
  induction n with
  | zero => rfl
  | succ n ih => rw [List.replicate_succ, ih, List.replicate_succ, List.flatMap_cons]; rfl
section
variable {H : AH}
theorem nwF_at (h t n b : Int) (X : AH) : hg (H ++ (nwF H.length h t n b ++ X)) (H.length + 4) = .own (wdC h t n b (.sl (H.length + 3) 0 (64 * n.toNat) (64 * n.toNat)) rvZ (.p (H.length + 2) 0 0) (mlC h Z8)) ∧ hg (H ++ (nwF H.length h t n b ++ X)) (H.length + 3) = .vec 1 ((List.replicate (64 * n.toNat) (0 : Int)).flatMap e8F) := by
  constructor
  · rw [hg_len_add]; rfl
  · rw [hg_len_add, ← rep_e8]; rfl
theorem nwF_V (h t n b : Int) (X : AH) : wdV (H ++ (nwF H.length h t n b ++ X)) (H.length + 4) = some (H.length + 3, List.replicate (64 * n.toNat) 0) := by
  obtain ⟨h1, h2⟩ := nwF_at (H := H) h t n b X
  exact wdV_of (B := List.replicate (64 * n.toNat) 0) (by rw [List.length_replicate]; exact h1) h2
end
def B0 : List Int := List.replicate 64 0
def B1 : List Int := layB B0 0 [5]
def s_flive (args : List AV) : Option AV :=
  match args with
  | [] => some (.c (.b true))
  | _ => none
theorem s_flive_eq : s_flive [] = some (.c (.b true)) := rfl
set_option maxRecDepth 100000 in
set_option maxHeartbeats 2000000 in
theorem ok_flive : PuOk Tryz.prog 16 s_flive := by
  refine pu_ok (tab := [(17, .fp s_fnew), (7, .fq s_freplay), (9, .fp s_flay)]) hmix (TabOk.cons (e := .fp s_fnew) ok_fnew (TabOk.cons (e := .fq s_freplay) ok_freplay (TabOk.cons (e := .fp s_flay) ok_flay TabOk.nil))) Tryz.func16 rfl Tryz.results16 Tryz.ntmps16 (by kernel_rfl) (by kernel_rfl) ?_
  intro args v h
  unfold s_flive at h
  split at h
  · simp only [Option.some.injEq] at h; subst h
    refine ⟨by simp only [List.length_cons, List.length_nil]; decide, rfl, rfl, ?_⟩
    obtain ⟨K5, hK5⟩ : ∃ K5 : AH, K5 = nwF 0 1 1 1 1 := ⟨_, rfl⟩
    have l5 : K5.length = 5 := by rw [hK5]; rfl
    have n1 : s_fnew [.g [.i 1, .i 1, .i 1, .i 1]] [] = some (.t [.c (.p 4 0 0), .c (.i 0)], K5) := by
      simp only [s_fnew]
      rw [if_pos (by decide), hK5]
      rfl
    have v5 : ∀ X, wdV (K5 ++ X) 4 = some (3, B0) := fun X => by
      have := nwF_V (H := []) 1 1 1 1 X
      rw [List.nil_append, List.length_nil, ← hK5] at this
      exact this
    have h5 : ∀ X, hg (K5 ++ X) 4 = .own (.i 1 :: .i 1 :: .i 1 :: .i 1 :: .sl 3 0 64 64 :: (rvZ ++ .p 2 0 0 :: mlC 1 Z8)) := fun X => by
      have := (nwF_at (H := []) 1 1 1 1 X).1
      rw [List.nil_append, List.length_nil, ← hK5] at this
      exact this
    have r1 : ∀ X, s_freplay [.c (.p 4 0 0), .c (.sl 5 0 65 1)] (K5 ++ (.vec 65 (evC 5#64) :: X)) = some (.t [.c (.i 0), .c (.b false)]) := fun X => by
      have := s_freplay_eq (e := 5) (wdR_of (v5 (.vec 65 (evC 5#64) :: X))) (h5 _) (by decide) (has_base (by decide) (by decide)) (by decide) (by rw [← l5, hg_len]; rfl)
      rw [this]
      have e : ld8 B0 2147483648#64 = 0#64 := by unfold ld8; rw [of_base]; rfl
      rw [e]; rfl
    obtain ⟨K8, hK8⟩ : ∃ K8 : AH, K8 = (K5 ++ [AObj.vec 65 (evC 5#64), AObj.vec 1 [.k .u8 5]]).set 3 (.vec 1 (B1.flatMap e8F)) := ⟨_, rfl⟩
    have f1 : s_flay [.c (.p 4 0 0), .c (.u 2147483648#64), .c (.sl 6 0 1 1)] (K5 ++ [AObj.vec 65 (evC 5#64), AObj.vec 1 [.k .u8 5]]) = some (.c (.b true), K8) := by
      have h6 : hg (K5 ++ [AObj.vec 65 (evC 5#64), AObj.vec 1 [.k .u8 5]]) 6 = .vec 1 (([5] : List Int).flatMap e8F) := by
        have := hg_len_add (H := K5) (X := [AObj.vec 65 (evC 5#64), AObj.vec 1 [.k .u8 5]]) (n := 1)
        rw [l5] at this
        rw [this]; rfl
      have fe := s_flay_eq (a := 2147483648#64) (v5 _) (cutF_vec h6) (by decide) (by decide)
      simp only [List.length_cons, List.length_nil, Nat.zero_add] at fe
      rw [fe, if_neg (by decide), if_pos (has_base (by decide) (by decide)), of_base, hK8]; rfl
    have k8 : ∀ i, i ≠ 3 → hg K8 i = hg (K5 ++ [AObj.vec 65 (evC 5#64), AObj.vec 1 [.k .u8 5]]) i := fun i hi => by rw [hK8, hg_set_ne' (fun c => hi c.symm)]
    have r2 : s_freplay [.c (.p 4 0 0), .c (.sl 5 0 65 1)] K8 = some (.t [.c (.i 0), .c (.b true)]) := by
      have h4 : hg K8 4 = .own (.i 1 :: .i 1 :: .i 1 :: .i 1 :: .sl 3 0 64 64 :: (rvZ ++ .p 2 0 0 :: mlC 1 Z8)) := by rw [k8 4 (by decide), h5]
      have h3 : hg K8 3 = .vec 1 (B1.flatMap e8F) := by rw [hK8, hg_set_same (by simp; omega)]
      have v8 : wdV K8 4 = some (3, B1) := wdV_of h4 h3
      have := s_freplay_eq (e := 5) (wdR_of v8) h4 (by decide) (has_base (by decide) (by decide)) (by decide) (by rw [k8 5 (by decide), ← l5, hg_len]; rfl)
      rw [this]
      have e : ld8 B1 2147483648#64 = 5#64 := by unfold ld8; rw [of_base]; rfl
      rw [e]; rfl
    simp only [evC, lqC, rLq, ansF, rowC_0, List.cons_append, List.nil_append] at r1 f1
    (try simp (config := { maxSteps := 10000000 }) only [go_sem, seval, n1, l5, r1, f1, r2]; repeat (simp (disch := omega) only [w64_d, ipos, ineg, dpos, dneg]; try simp (config := { maxSteps := 10000000 }) only [go_sem, seval, n1, l5, r1, f1, r2]))
  · simp at h
end
end Go.Proofs.YtcbhelkafelofaaGreat
namespace Go.Proofs.YtcbhelkafelofaaGreat
open Go.Am
set_option linter.unusedSimpArgs false
set_option linter.unusedVariables false
noncomputable section
set_option maxRecDepth 100000

section
variable {H : AH}
noncomputable def ptV (id off v N : Nat) (a b : BitVec 64) (c s : Int) : AV :=
  if c = 0 then (if hasF N a s = true then .t [.c (.sl id (off + offW a) v s.toNat), .c .nils, .c (.b true)] else .t [.c .nils, .c .nils, .c (.b false)])
  else if hasF N a c = true ∧ hasF N b (s - c) = true then .t [.c (.sl id (off + offW a) v c.toNat), .c (.sl id (off + offW b) v (s - c).toNat), .c (.b true)] else .t [.c .nils, .c .nils, .c (.b false)]
noncomputable def s_fparts (args : List AV) (H : AH) : Option AV :=
  match args with
  | [.c (.p p 0 0), .g (.i _ :: .u a :: .u b :: .i c :: .i s :: r)] =>
    match wdR H p with
    | some (.sl id off v N, B) => if 0 < B.length ∧ B.length ≤ 262144 ∧ 0 ≤ c ∧ c < s ∧ s ≤ 8 ∧ r.length = 14 ∧ r.all Sc.one = true then some (ptV id off v B.length a b c s) else none
    | _ => none
  | _ => none
theorem s_fparts_eq {p id off v N : Nat} {B : List Int} {k c s : Int} {a b : BitVec 64} {r : List Sc} (h : wdR H p = some (.sl id off v N, B)) (h0 : 0 < B.length) (h1 : B.length ≤ 262144) (c0 : 0 ≤ c) (cs : c < s) (s8 : s ≤ 8) (h2 : r.length = 14) (h3 : r.all Sc.one = true) :
    s_fparts [.c (.p p 0 0), .g (.i k :: .u a :: .u b :: .i c :: .i s :: r)] H = some (ptV id off v B.length a b c s) := by
  simp only [s_fparts, h]; rw [if_pos ⟨h0, h1, c0, cs, s8, h2, h3⟩]
set_option maxRecDepth 100000 in
set_option maxHeartbeats 2000000 in
theorem ok_fparts : FpOk Tryz.prog 41 (fun args H => (s_fparts args H).map fun v => (v, H)) := by
  refine fq_ok (s := s_fparts) (tab := [(29, .fq s_fspot)]) hmix (TabOk.cons (e := .fq s_fspot) ok_fspot TabOk.nil) Tryz.func41 rfl Tryz.results41 Tryz.ntmps41 (by kernel_rfl) (by kernel_rfl) ?_
  intro args H v h hargs hH
  unfold s_fparts at h
  split at h <;> try (simp at h; done)
  rename_i p k a b c s r
  split at h <;> try (simp at h; done)
  rename_i id off v N B hx
  split at h <;> try (simp at h; done)
  rename_i hc
  obtain ⟨b0, hB, c0, cs, s8, lr, ro⟩ := hc
  simp only [Option.some.injEq] at h
  subst h
  obtain ⟨c1, c2, c3, c4, r', ho, hcut⟩ := wdR_inv hx
  have lid := cut_lt hcut b0
  have bpt : AV.bel H.length (ptV id off v N a b c s) = true := by
    unfold ptV
    repeat' split
    all_goals simp [AV.bel, Sc.bel, lid]
  obtain ⟨_, rfl, _, _⟩ := cut_cell hcut
  refine ⟨by simp only [List.length_cons, List.length_nil]; decide, bpt, ?_⟩
  clear bpt
  have rt : r.take 14 = r := List.take_of_length_le (by omega)
  have hX : ∀ X, hg (H ++ X) p = .own (.i c1 :: .i c2 :: .i c3 :: .i c4 :: .sl id off v B.length :: r') := fun X => by rw [hg_lt' (hg_lt (by rw [ho]; rfl)), ho]
  have sp := fun X (a : BitVec 64) (n : Int) (hn : n ≤ 8) => s_fspot_eq (H := H ++ X) (p := p) (x := .sl id off v B.length) (B := B) (a := a) (n := n) (wdR_app hx b0 X) hB (by omega)
  -- a cut: what the machine asks
  have ct : ∀ (a : BitVec 64) (m : Nat), hasF B.length a m = true → m ≤ 8 → w64 ((offW a : Int) + (m : Int)) = ((offW a + m : Nat) : Int) ∧ (0 : Int) ≤ (offW a : Int) ∧ (offW a : Int) < ((offW a + m : Nat) : Int) ∧ ((offW a + m : Nat) : Int) ≤ (B.length : Int) ∧ offW a + m - offW a = m := fun a m hh hm => by
    rw [hasF_iff] at hh
    refine ⟨by rw [w64_d (by omega) (by omega)]; omega, by omega, by omega, by omega, Nat.add_sub_cancel_left ..⟩
  have q3 : ∀ x : Int, x ≤ x := fun x => Int.le_refl x
  obtain ⟨n, rfl⟩ : ∃ n : Nat, s = (n : Int) := ⟨s.toNat, by omega⟩
  by_cases z : c = 0
  · subst z
    have sa := fun X => sp X a n s8
    unfold ptV
    rw [if_pos rfl]
    by_cases hh : hasF B.length a n = true
    · rw [if_pos hh]
      simp only [hh, if_true] at sa
      obtain ⟨e1, e2, e3, e4, e5⟩ := ct a n hh (by omega)
      (try simp (config := { maxSteps := 10000000 }) only [go_sem, seval, lr, ro, rt, sa, hX, e1, e2, e3, e4, e5, q3, Int.toNat_natCast]; repeat (simp (disch := omega) only [w64_d, ipos, ineg, dpos, dneg]; try simp (config := { maxSteps := 10000000 }) only [go_sem, seval, lr, ro, rt, sa, hX, e1, e2, e3, e4, e5, q3, Int.toNat_natCast]))
      exact subH_app _ _
    · rw [if_neg hh]
      simp only [if_neg hh] at sa
      (try simp (config := { maxSteps := 10000000 }) only [go_sem, seval, lr, ro, rt, sa, hX]; repeat (simp (disch := omega) only [w64_d, ipos, ineg, dpos, dneg]; try simp (config := { maxSteps := 10000000 }) only [go_sem, seval, lr, ro, rt, sa, hX]))
      exact subH_app _ _
  · obtain ⟨m, rfl⟩ : ∃ m : Nat, c = (m : Int) := ⟨c.toNat, by omega⟩
    have m0 : (0 : Int) < (m : Int) := by omega
    have sa := fun X => sp X a m (by omega)
    have sb := fun X => sp X b ((n - m : Nat) : Int) (by omega)
    have em : w64 ((n : Int) - (m : Int)) = ((n - m : Nat) : Int) := by rw [w64_d (by omega) (by omega)]; omega
    have em2 : ((n : Int) - (m : Int)) = ((n - m : Nat) : Int) := by omega
    unfold ptV
    rw [if_neg z, em2]
    by_cases hh : hasF B.length a m = true
    · simp only [hh, if_true] at sa
      obtain ⟨e1, e2, e3, e4, e5⟩ := ct a m hh (by omega)
      by_cases h2 : hasF B.length b ((n - m : Nat) : Int) = true
      · rw [if_pos ⟨hh, h2⟩]
        simp only [h2, if_true] at sb
        obtain ⟨g1, g2, g3, g4, g5⟩ := ct b (n - m) h2 (by omega)
        (try simp (config := { maxSteps := 10000000 }) only [go_sem, seval, lr, ro, rt, sa, sb, hX, m0, z, em, e1, e2, e3, e4, e5, g1, g2, g3, g4, g5, q3, Int.toNat_natCast]; repeat (simp (disch := omega) only [w64_d, ipos, ineg, dpos, dneg]; try simp (config := { maxSteps := 10000000 }) only [go_sem, seval, lr, ro, rt, sa, sb, hX, m0, z, em, e1, e2, e3, e4, e5, g1, g2, g3, g4, g5, q3, Int.toNat_natCast]))
        exact subH_app _ _
      · rw [if_neg (fun c => h2 c.2)]
        simp only [if_neg h2] at sb
        (try simp (config := { maxSteps := 10000000 }) only [go_sem, seval, lr, ro, rt, sa, sb, hX, m0, z, em, e1, e2, e3, e4, e5, q3, Int.toNat_natCast]; repeat (simp (disch := omega) only [w64_d, ipos, ineg, dpos, dneg]; try simp (config := { maxSteps := 10000000 }) only [go_sem, seval, lr, ro, rt, sa, sb, hX, m0, z, em, e1, e2, e3, e4, e5, q3, Int.toNat_natCast]))
        exact subH_app _ _
    · rw [if_neg (fun c => hh c.1)]
      simp only [if_neg hh] at sa
      (try simp (config := { maxSteps := 10000000 }) only [go_sem, seval, lr, ro, rt, sa, hX, m0, z]; repeat (simp (disch := omega) only [w64_d, ipos, ineg, dpos, dneg]; try simp (config := { maxSteps := 10000000 }) only [go_sem, seval, lr, ro, rt, sa, hX, m0, z]))
      exact subH_app _ _
end
end
end Go.Proofs.YtcbhelkafelofaaGreat
