/- Layer 32: a log of one load; what must be whatever is asked: contracts. -/
import Derived.Test.YtcbhelkafelofaaGreatFlB
namespace Go.Proofs.YtcbhelkafelofaaGreat
open Go.Am
set_option linter.unusedSimpArgs false
set_option linter.unusedVariables false
noncomputable section
set_option maxRecDepth 100000

def rLq : List Sc := [.i 0, .u 0#64, .u 0#64, .b false, .i 0, .b false, .b false, .b false, .u 0#64, .i 0, .i 0, .u 0#64, .i 0, .u 0#64]
def lqC : List Sc := .i 2 :: .u 2147483648#64 :: .u 0#64 :: .i 0 :: .i 8 :: rLq
def evC (w : BitVec 64) : List Sc := .i 0 :: (lqC ++ (ansF w ++ [.i 0, .i 0, .i 0]))
theorem ans_ne (q : BitVec 64) : abin Tryz.prog .neq 34 (.g (ansF q)) (.g (ansF 5#64)) = some (.c (.b (!decide (q = 5#64)))) := by
  have gT : tagsT Tryz.prog 12 34 = some (Tg.n :: Tg.q :: (List.replicate 8 [Tg.q, .q, .q, .n, .n]).flatten) := by kernel_rfl
  rw [ab_g_neq _ (by kernel_rfl) gT]
  have h : csEq (List.replicate 8 [Tg.q, .q, .q, .n, .n]).flatten (rowC row0) (rowC row0) = some true := by kernel_rfl
  have : csEq (Tg.n :: Tg.q :: (List.replicate 8 [Tg.q, .q, .q, .n, .n]).flatten) (ansF q) (ansF 5#64) = some (decide (q = 5#64)) := by
    unfold ansF
    simp only [csEq, h, scEq]
    by_cases c : q = 5#64 <;> simp [c]
  rw [this]; rfl
section
variable {H : AH}
open Classical in
noncomputable def s_freplay (args : List AV) (H : AH) : Option AV :=
  match args with
  | [.c .nilp, .c _] => some (.t [.c (.i 0), .c (.b false)])
  | [.c (.p p 0 0), .c (.sl e 0 v n)] =>
    match wdR H p, hg H p with
    | some (.sl id off u N, B), .own (.i m :: .i _ :: .i _ :: .i _ :: _) =>
      if B.length ≤ 262144 ∧ hasF B.length 2147483648#64 8 = true ∧ 0 < m ∧ n = 1 ∧ v = 65 ∧ hg H e = .vec 65 (evC 5#64) then some (.t [.c (.i 0), .c (.b (decide (ld8 B 2147483648#64 = 5#64)))]) else none
    | _, _ => none
  | _ => none
theorem s_freplay_nil {x : Sc} : s_freplay [.c .nilp, .c x] H = some (.t [.c (.i 0), .c (.b false)]) := rfl
theorem s_freplay_eq {p id off u N e : Nat} {B : List Int} {n c1 c2 c3 : Int} {rr : List Sc} (hw : wdR H p = some (.sl id off u N, B)) (ho : hg H p = .own (.i n :: .i c1 :: .i c2 :: .i c3 :: rr)) (h1 : B.length ≤ 262144) (h4 : hasF B.length 2147483648#64 8 = true) (n1 : 0 < n) (he : hg H e = .vec 65 (evC 5#64)) :
    s_freplay [.c (.p p 0 0), .c (.sl e 0 65 1)] H = some (.t [.c (.i 0), .c (.b (decide (ld8 B 2147483648#64 = 5#64)))]) := by
  simp only [s_freplay, hw, ho]; rw [if_pos ⟨h1, h4, n1, rfl, rfl, he⟩]
set_option maxRecDepth 100000 in
set_option maxHeartbeats 2000000 in
theorem ok_freplay : FpOk Tryz.prog 7 (fun args H => (s_freplay args H).map fun v => (v, H)) := by
  refine fq_ok (s := s_freplay) (tab := [(8, .fq s_fdo1)]) hmix (TabOk.cons (e := .fq s_fdo1) ok_fdo1 TabOk.nil) Tryz.func7 rfl Tryz.results7 Tryz.ntmps7 (by kernel_rfl) (by kernel_rfl) ?_
  intro args H v h hargs hH
  unfold s_freplay at h
  split at h
  · simp only [Option.some.injEq] at h
    subst h
    refine ⟨by simp only [List.length_cons, List.length_nil]; decide, rfl, ?_⟩
    (try simp (config := { maxSteps := 10000000 }) only [go_sem, seval]; repeat (simp (disch := omega) only [w64_d, ipos, ineg, dpos, dneg]; try simp (config := { maxSteps := 10000000 }) only [go_sem, seval]))
    exact subH_refl _
  · rename_i p e v n
    split at h <;> try (simp at h; done)
    rename_i id off u N B m c1 c2 c3 rr hx ho
    split at h <;> try (simp at h; done)
    rename_i hc
    obtain ⟨hB, hh, m0, rfl, rfl, he⟩ := hc
    simp only [Option.some.injEq] at h
    subst h
    refine ⟨by simp only [List.length_cons, List.length_nil]; decide, rfl, ?_⟩
    have hh' := hh
    rw [hasF_iff] at hh'
    have b0 : 0 < B.length := by omega
    have le : e < H.length := hg_lt (by rw [he]; rfl)
    have heX : ∀ X, hg (H ++ X) e = .vec 65 (evC 5#64) := fun X => by rw [hg_lt' le, he]
    have hX : ∀ X, hg (H ++ X) p = .own (.i m :: .i c1 :: .i c2 :: .i c3 :: rr) := fun X => by rw [hg_lt' (hg_lt (by rw [ho]; rfl)), ho]
    have my : ∀ X, s_fdo1 [.c (.p p 0 0), .c (.i 0), .g lqC] (H ++ X) = some (.t [.g (ansF (ld8 B 2147483648#64)), .c (.b true)]) := fun X => by
      unfold lqC
      simp only [s_fdo1, wdR_app hx b0 X, hX X]
      rw [if_pos ⟨hB, trivial, trivial, trivial, rfl, ⟨rfl, rfl⟩, hh, Int.le_refl _, m0⟩]
    have e1 : (evC 5#64).length = 65 := rfl
    have e2 : (evC 5#64).take 65 = evC 5#64 := rfl
    have e3 : (evC 5#64).getD 0 .any = .i 0 := rfl
    have e4 : ((evC 5#64).drop 1).take 19 = lqC := rfl
    have e5 : ((evC 5#64).drop 20).take 42 = ansF 5#64 := rfl
    have e6 : (evC 5#64).all Sc.one = true := rfl
    have al := ansF_l (ld8 B 2147483648#64)
    have a1 := ansF_one (ld8 B 2147483648#64)
    have at' : (ansF (ld8 B 2147483648#64)).take 42 = ansF (ld8 B 2147483648#64) := rfl
    generalize ld8 B 2147483648#64 = q at *
    (try simp (config := { maxSteps := 10000000 }) only [go_sem, seval, he, heX, my, e1, e2, e3, e4, e5, e6, al, a1, at']; repeat (simp (disch := omega) only [w64_d, ipos, ineg, dpos, dneg]; try simp (config := { maxSteps := 10000000 }) only [go_sem, seval, he, heX, my, e1, e2, e3, e4, e5, e6, al, a1, at']))
    rw [arun_loop]
    refine ⟨{k : Nat // k ≤ 1 ∧ (k = 1 → q = 5#64)}, fun k => ([(0, .c (.p p 0 0)), (12, .c (.sl e 0 65 1)), (13, .c (.i 1)), (14, .c (.i k.1))], if k.1 = 0 then H else H ++ [.own (evC 5#64), .own (ansF q)]), fun k => 1 - k.1, ⟨0, by omega, by omega⟩, wkF (by simp [Am.get]), ?_⟩
    rintro ⟨k, hk, hq⟩
    rcases (show k = 0 ∨ k = 1 by omega) with rfl | rfl
    · simp only [if_true]
      by_cases c : q = 5#64
      · have c' := eq_true c
        have ab := ans_ne q
        rw [decide_eq_true c] at ab ⊢
        (try simp (config := { maxSteps := 10000000 }) only [go_sem, seval, he, heX, my, e1, e2, e3, e4, e5, e6, al, a1, at', ab]; repeat (simp (disch := omega) only [w64_d, ipos, ineg, dpos, dneg]; try simp (config := { maxSteps := 10000000 }) only [go_sem, seval, he, heX, my, e1, e2, e3, e4, e5, e6, al, a1, at', ab]))
        exact ⟨⟨1, by omega, fun _ => c⟩, by simp only; omega, wkFe rfl (by simp [Am.get])⟩
      · have ab := ans_ne q
        rw [decide_eq_false c] at ab ⊢
        (try simp (config := { maxSteps := 10000000 }) only [go_sem, seval, he, heX, my, e1, e2, e3, e4, e5, e6, al, a1, at', ab]; repeat (simp (disch := omega) only [w64_d, ipos, ineg, dpos, dneg]; try simp (config := { maxSteps := 10000000 }) only [go_sem, seval, he, heX, my, e1, e2, e3, e4, e5, e6, al, a1, at', ab]))
        exact subH_app _ _
    · simp only [Nat.one_ne_zero, if_false]
      rw [decide_eq_true (hq rfl)]
      (try simp (config := { maxSteps := 10000000 }) only [go_sem, seval]; repeat (simp (disch := omega) only [w64_d, ipos, ineg, dpos, dneg]; try simp (config := { maxSteps := 10000000 }) only [go_sem, seval]))
      exact subH_app _ _
  · simp at h
end
end
end Go.Proofs.YtcbhelkafelofaaGreat
