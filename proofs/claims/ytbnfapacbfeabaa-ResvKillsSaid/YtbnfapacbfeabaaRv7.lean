/- Layer 13: what must be whatever is asked; is a table as the reference's: contracts. -/
import Derived.Test.YtbnfapacbfeabaaRv6
namespace Go.Proofs.Ytbnfapacbfeabaa
open Go.Am
set_option linter.unusedSimpArgs false
set_option linter.unusedVariables false
noncomputable section

def wfR (R : List Sl) : Prop := R.length = 8 ∧ ∀ y ∈ R, y.is = false → y.ln = 0#64
theorem wfR_set {R : List Sl} {h : Int} {y : Sl} (hR : wfR R) (hy : y.is = false → y.ln = 0#64) : wfR (setT R h y) := by
  refine ⟨by rw [setT_l]; exact hR.1, ?_⟩
  unfold setT
  split
  · intro z hz
    rcases List.mem_or_eq_of_mem_set hz with h1 | h1
    · exact hR.2 z h1
    · rw [h1]; exact hy
  · exact hR.2
theorem wfR_kill {R : List Sl} {l : BitVec 64} {b : Int} (hR : wfR R) : ∀ k, wfR (killN R l b k)
  | 0 => hR
  | k + 1 => by
    have ih := wfR_kill (l := l) (b := b) hR k
    simp only [killN]
    split
    · refine ⟨by rw [List.length_set]; exact ih.1, ?_⟩
      intro z hz
      rcases List.mem_or_eq_of_mem_set hz with h1 | h1
      · exact ih.2 z h1
      · rw [h1]; exact fun _ => rfl
    · exact ih
theorem wfR_do {R : List Sl} {d : Rd} (hR : wfR R) : wfR (doR R d) := by
  unfold doR; split
  · exact wfR_set hR (fun h => by simp at h)
  · split
    · exact wfR_set hR (fun _ => rfl)
    · exact wfR_kill hR 8
theorem wfR_Z : wfR Z8 := ⟨rfl, fun y hy _ => by rw [List.eq_of_mem_replicate hy]; rfl⟩
def Lv1 : List Sl := setT Z8 0 ⟨true, 5#64⟩
def Lv2 : List Sl := setT Lv1 1 ⟨true, 5#64⟩
def Lv3 : List Sl := setT Lv2 2 ⟨true, 6#64⟩
def Lv4 : List Sl := killN Lv3 5#64 1 8
def s_vlive (args : List AV) : Option AV :=
  match args with
  | [] => some (.c (.b true))
  | _ => none
theorem s_vlive_eq : s_vlive [] = some (.c (.b true)) := rfl
set_option maxRecDepth 100000 in
set_option maxHeartbeats 2000000 in
theorem ok_vlive : PuOk Try.prog 5 s_vlive := by
  refine pu_ok (tab := [(9, .fp s_vset), (7, .fp s_vkill), (13, .fp s_vlines)]) hmix (TabOk.cons (e := .fp s_vset) ok_vset (TabOk.cons (e := .fp s_vkill) ok_vkill (TabOk.cons (e := .fp s_vlines) ok_vlines TabOk.nil))) Try.func5 rfl Try.results5 Try.ntmps5 (by kernel_rfl) (by kernel_rfl) ?_
  intro args v h
  unfold s_vlive at h
  split at h
  · simp only [Option.some.injEq] at h; subst h
    refine ⟨by simp only [List.length_cons, List.length_nil]; decide, rfl, rfl, ?_⟩
    have p1 : s_vset [.c (.p 0 0 0), .c (.i 0), .c (.u 5#64)] [.own (tabC Z8)] = some (.c (.b true), [.own (tabC Lv1)]) := s_vset_eq (H := [.own (tabC Z8)]) (x := .p 0 0 0) (h := 0) (l := 5#64) (R := Z8) rfl
    have p2 : s_vset [.c (.p 0 0 0), .c (.i 1), .c (.u 5#64)] [.own (tabC Lv1)] = some (.c (.b true), [.own (tabC Lv2)]) := s_vset_eq (H := [.own (tabC Lv1)]) (x := .p 0 0 0) (h := 1) (l := 5#64) (R := Lv1) rfl
    have p3 : s_vset [.c (.p 0 0 0), .c (.i 2), .c (.u 6#64)] [.own (tabC Lv2)] = some (.c (.b true), [.own (tabC Lv3)]) := s_vset_eq (H := [.own (tabC Lv2)]) (x := .p 0 0 0) (h := 2) (l := 6#64) (R := Lv2) rfl
    have c4 : cntN Lv3 5#64 1 8 = 1 := by kernel_rfl
    have p4 : s_vkill [.c (.p 0 0 0), .c (.u 5#64), .c (.i 1)] [.own (tabC Lv3)] = some (.c (.i 1), [.own (tabC Lv4)]) := by
      have := s_vkill_eq (H := [.own (tabC Lv3)]) (x := .p 0 0 0) (l := 5#64) (but := 1) (R := Lv3) rfl
      rw [c4] at this
      exact this
    have o4 : linO (some Lv4) = [5#64, 6#64] := by kernel_rfl
    have p5 := s_vlines_eq (H := [.own (tabC Lv4)]) (x := .p 0 0 0) (r := some Lv4) rfl
    rw [o4] at p5
    rw [Z8_t] at p1
    (try simp (config := { maxSteps := 10000000 }) only [go_sem, List.reduceReplicate, BitVec.reduceOfInt, BitVec.reduceToNat, BitVec.reduceToInt, BitVec.reduceEq, BitVec.reduceLT, BitVec.reduceLE, BitVec.reduceAdd, BitVec.reduceSub, BitVec.reduceMul, BitVec.reduceUDiv, BitVec.reduceUMod, BitVec.reduceAnd, BitVec.reduceOr, BitVec.reduceXOr, BitVec.reduceNot, BitVec.reduceNeg, BitVec.reduceHShiftLeft, BitVec.reduceHShiftRight, Nat.reduceAdd, Nat.reduceMul, Nat.reduceSub, Nat.reduceBEq, Nat.reduceEqDiff, Nat.reduceLeDiff, Nat.reduceLT, Int.reduceLE, Int.reduceLT, Int.reduceAdd, Int.reduceSub, Int.reduceMul, Int.reduceNeg, Int.reduceToNat, Int.reduceEq, ↓reduceIte, reduceCtorEq, p1, p2, p3, p4, p5, gU]; repeat (simp (disch := omega) only [w64_d, ipos, ineg, dpos, dneg]; try simp (config := { maxSteps := 10000000 }) only [go_sem, List.reduceReplicate, BitVec.reduceOfInt, BitVec.reduceToNat, BitVec.reduceToInt, BitVec.reduceEq, BitVec.reduceLT, BitVec.reduceLE, BitVec.reduceAdd, BitVec.reduceSub, BitVec.reduceMul, BitVec.reduceUDiv, BitVec.reduceUMod, BitVec.reduceAnd, BitVec.reduceOr, BitVec.reduceXOr, BitVec.reduceNot, BitVec.reduceNeg, BitVec.reduceHShiftLeft, BitVec.reduceHShiftRight, Nat.reduceAdd, Nat.reduceMul, Nat.reduceSub, Nat.reduceBEq, Nat.reduceEqDiff, Nat.reduceLeDiff, Nat.reduceLT, Int.reduceLE, Int.reduceLT, Int.reduceAdd, Int.reduceSub, Int.reduceMul, Int.reduceNeg, Int.reduceToNat, Int.reduceEq, ↓reduceIte, reduceCtorEq, p1, p2, p3, p4, p5, gU]))
  · simp at h
instance decWf (R : List Sl) : Decidable (wfR R) := Classical.propDecidable _
def s_rvsame (args : List AV) (H : AH) : Option AV :=
  match args with
  | [.c x, .g l, .c (.u _)] =>
    match tabP H x with
    | some (some R) => if wfR R ∧ l = refC R then some (.c (.b true)) else none
    | _ => none
  | _ => none
theorem s_rvsame_eq {H : AH} {x : Sc} {q : BitVec 64} {R : List Sl} (hR : tabP H x = some (some R)) (hw : wfR R) : s_rvsame [.c x, .g (refC R), .c (.u q)] H = some (.c (.b true)) := by
  simp only [s_rvsame, hR, hw, and_self, if_true]
theorem at8_out {R : List Sl} {h : Int} (x : in8 h = false) : at8 R h = z0 := by unfold at8; rw [if_neg (by rw [x]; decide)]
theorem hasT_out {R : List Sl} {h : Int} {l : BitVec 64} (x : in8 h = false) : hasT R h l = false := by unfold hasT; rw [x]; rfl
set_option maxHeartbeats 4000000 in
set_option maxRecDepth 100000 in
set_option maxHeartbeats 2000000 in
theorem ok_rvsame : FpOk Try.prog 14 (fun args H => (s_rvsame args H).map fun v => (v, H)) := by
  refine fq_ok (s := s_rvsame) (tab := [(8, .fq s_vof), (11, .fq s_vhas), (13, .fp s_vlines), (20, .fp s_vrlines), (12, .fp s_vwho), (22, .fp s_vrwho), (21, .fq s_ints)]) hmix (TabOk.cons (e := .fq s_vof) ok_vof (TabOk.cons (e := .fq s_vhas) ok_vhas (TabOk.cons (e := .fp s_vlines) ok_vlines (TabOk.cons (e := .fp s_vrlines) ok_vrlines (TabOk.cons (e := .fp s_vwho) ok_vwho (TabOk.cons (e := .fp s_vrwho) ok_vrwho (TabOk.cons (e := .fq s_ints) ok_ints TabOk.nil))))))) Try.func14 rfl Try.results14 Try.ntmps14 (by kernel_rfl) (by kernel_rfl) ?_
  intro args H v h hargs hH
  unfold s_rvsame at h
  split at h
  · rename_i x l q
    split at h
    · rename_i R hR
      split at h
      · rename_i hc
        obtain ⟨hw, rfl⟩ := hc
        simp only [Option.some.injEq] at h
        subst h
        refine ⟨by simp only [List.length_cons, List.length_nil]; decide, rfl, ?_⟩
        have bx : x.bel H.length = true := by simp only [List.all_cons, AV.bel, Bool.and_eq_true] at hargs; exact hargs.1
        have bx2 := Sc.bel_mono bx (show H.length ≤ H.length + 1 by omega)
        have hX : ∀ X, tabP (H ++ X) x = some (some R) := fun X => tabP_app hR bx
        have lR := refC_l hw.1
        have tk : (refC R).take 16 = refC R := by rw [← lR, List.take_length]
        have oR := @refC_one R
        have bb : ∀ X : AH, (∀ o ∈ X, ∀ n, o.scs.all (Sc.bel n) = true) → belH (H ++ .own (refC R) :: X) = true := fun X hx => belH_app hH (by simp only [List.mem_cons, forall_eq_or_imp]; exact ⟨refC_bel, fun o ho => hx o ho _⟩)
        have p1 := fun h X => s_vof_eq (h := h) (hX X)
        have p2 := fun h l X => s_vhas_eq (h := h) (l := l) (hX X)
        (try simp (config := { maxSteps := 10000000 }) only [go_sem, List.reduceReplicate, BitVec.reduceOfInt, BitVec.reduceToNat, BitVec.reduceToInt, BitVec.reduceEq, BitVec.reduceLT, BitVec.reduceLE, BitVec.reduceAdd, BitVec.reduceSub, BitVec.reduceMul, BitVec.reduceUDiv, BitVec.reduceUMod, BitVec.reduceAnd, BitVec.reduceOr, BitVec.reduceXOr, BitVec.reduceNot, BitVec.reduceNeg, BitVec.reduceHShiftLeft, BitVec.reduceHShiftRight, Nat.reduceAdd, Nat.reduceMul, Nat.reduceSub, Nat.reduceBEq, Nat.reduceEqDiff, Nat.reduceLeDiff, Nat.reduceLT, Int.reduceLE, Int.reduceLT, Int.reduceAdd, Int.reduceSub, Int.reduceMul, Int.reduceNeg, Int.reduceToNat, Int.reduceEq, ↓reduceIte, reduceCtorEq]; repeat (simp (disch := omega) only [w64_d, ipos, ineg, dpos, dneg]; try simp (config := { maxSteps := 10000000 }) only [go_sem, List.reduceReplicate, BitVec.reduceOfInt, BitVec.reduceToNat, BitVec.reduceToInt, BitVec.reduceEq, BitVec.reduceLT, BitVec.reduceLE, BitVec.reduceAdd, BitVec.reduceSub, BitVec.reduceMul, BitVec.reduceUDiv, BitVec.reduceUMod, BitVec.reduceAnd, BitVec.reduceOr, BitVec.reduceXOr, BitVec.reduceNot, BitVec.reduceNeg, BitVec.reduceHShiftLeft, BitVec.reduceHShiftRight, Nat.reduceAdd, Nat.reduceMul, Nat.reduceSub, Nat.reduceBEq, Nat.reduceEqDiff, Nat.reduceLeDiff, Nat.reduceLT, Int.reduceLE, Int.reduceLT, Int.reduceAdd, Int.reduceSub, Int.reduceMul, Int.reduceNeg, Int.reduceToNat, Int.reduceEq, ↓reduceIte, reduceCtorEq]))
        refine arun_for 10 (fun k => ([(0, .c x), (2, .c (.u q)), (4, .c (.p H.length 0 0)), (7, .c (.i ((k : Int) - 1)))], H ++ [.own (refC R)])) ?_ fun k hk => ?_
        · exact Wk.wk (by simp [lo]) (by simp [Am.get]) (by simp [AV.bel, bx2]; simp [Sc.bel]) (subH_refl _) (bb [] (by simp))
        · by_cases hlt : k < 10
          · by_cases ho : k = 0 ∨ k = 9
            · rcases ho with rfl | rfl
              · have q1 := p1 (-1) [.own (refC R)]
                have q2 := p2 (-1) q [.own (refC R)]
                rw [at8_out (by decide)] at q1
                rw [hasT_out (by decide)] at q2
                simp only [z0] at q1
                (try simp (config := { maxSteps := 10000000 }) only [go_sem, List.reduceReplicate, BitVec.reduceOfInt, BitVec.reduceToNat, BitVec.reduceToInt, BitVec.reduceEq, BitVec.reduceLT, BitVec.reduceLE, BitVec.reduceAdd, BitVec.reduceSub, BitVec.reduceMul, BitVec.reduceUDiv, BitVec.reduceUMod, BitVec.reduceAnd, BitVec.reduceOr, BitVec.reduceXOr, BitVec.reduceNot, BitVec.reduceNeg, BitVec.reduceHShiftLeft, BitVec.reduceHShiftRight, Nat.reduceAdd, Nat.reduceMul, Nat.reduceSub, Nat.reduceBEq, Nat.reduceEqDiff, Nat.reduceLeDiff, Nat.reduceLT, Int.reduceLE, Int.reduceLT, Int.reduceAdd, Int.reduceSub, Int.reduceMul, Int.reduceNeg, Int.reduceToNat, Int.reduceEq, ↓reduceIte, reduceCtorEq, q1, q2]; repeat (simp (disch := omega) only [w64_d, ipos, ineg, dpos, dneg]; try simp (config := { maxSteps := 10000000 }) only [go_sem, List.reduceReplicate, BitVec.reduceOfInt, BitVec.reduceToNat, BitVec.reduceToInt, BitVec.reduceEq, BitVec.reduceLT, BitVec.reduceLE, BitVec.reduceAdd, BitVec.reduceSub, BitVec.reduceMul, BitVec.reduceUDiv, BitVec.reduceUMod, BitVec.reduceAnd, BitVec.reduceOr, BitVec.reduceXOr, BitVec.reduceNot, BitVec.reduceNeg, BitVec.reduceHShiftLeft, BitVec.reduceHShiftRight, Nat.reduceAdd, Nat.reduceMul, Nat.reduceSub, Nat.reduceBEq, Nat.reduceEqDiff, Nat.reduceLeDiff, Nat.reduceLT, Int.reduceLE, Int.reduceLT, Int.reduceAdd, Int.reduceSub, Int.reduceMul, Int.reduceNeg, Int.reduceToNat, Int.reduceEq, ↓reduceIte, reduceCtorEq, q1, q2]))
                exact ⟨1, by omega, by omega, Wk.wk (by simp [lo]) (by simp [Am.get]) (by simp [AV.bel, bx2]; simp [Sc.bel]) (subH_refl _) (bb [] (by simp))⟩
              · have q1 := p1 8 [.own (refC R)]
                have q2 := p2 8 q [.own (refC R)]
                rw [at8_out (by decide)] at q1
                rw [hasT_out (by decide)] at q2
                simp only [z0] at q1
                (try simp (config := { maxSteps := 10000000 }) only [go_sem, List.reduceReplicate, BitVec.reduceOfInt, BitVec.reduceToNat, BitVec.reduceToInt, BitVec.reduceEq, BitVec.reduceLT, BitVec.reduceLE, BitVec.reduceAdd, BitVec.reduceSub, BitVec.reduceMul, BitVec.reduceUDiv, BitVec.reduceUMod, BitVec.reduceAnd, BitVec.reduceOr, BitVec.reduceXOr, BitVec.reduceNot, BitVec.reduceNeg, BitVec.reduceHShiftLeft, BitVec.reduceHShiftRight, Nat.reduceAdd, Nat.reduceMul, Nat.reduceSub, Nat.reduceBEq, Nat.reduceEqDiff, Nat.reduceLeDiff, Nat.reduceLT, Int.reduceLE, Int.reduceLT, Int.reduceAdd, Int.reduceSub, Int.reduceMul, Int.reduceNeg, Int.reduceToNat, Int.reduceEq, ↓reduceIte, reduceCtorEq, q1, q2]; repeat (simp (disch := omega) only [w64_d, ipos, ineg, dpos, dneg]; try simp (config := { maxSteps := 10000000 }) only [go_sem, List.reduceReplicate, BitVec.reduceOfInt, BitVec.reduceToNat, BitVec.reduceToInt, BitVec.reduceEq, BitVec.reduceLT, BitVec.reduceLE, BitVec.reduceAdd, BitVec.reduceSub, BitVec.reduceMul, BitVec.reduceUDiv, BitVec.reduceUMod, BitVec.reduceAnd, BitVec.reduceOr, BitVec.reduceXOr, BitVec.reduceNot, BitVec.reduceNeg, BitVec.reduceHShiftLeft, BitVec.reduceHShiftRight, Nat.reduceAdd, Nat.reduceMul, Nat.reduceSub, Nat.reduceBEq, Nat.reduceEqDiff, Nat.reduceLeDiff, Nat.reduceLT, Int.reduceLE, Int.reduceLT, Int.reduceAdd, Int.reduceSub, Int.reduceMul, Int.reduceNeg, Int.reduceToNat, Int.reduceEq, ↓reduceIte, reduceCtorEq, q1, q2]))
                exact ⟨10, by omega, by omega, Wk.wk (by simp [lo]) (by simp [Am.get]) (by simp [AV.bel, bx2]; simp [Sc.bel]) (subH_refl _) (bb [] (by simp))⟩
            · obtain ⟨j, rfl⟩ : ∃ j, k = j + 1 := ⟨k - 1, by omega⟩
              have j8 : j < 8 := by omega
              have eJ : ((j + 1 : Nat) : Int) - 1 = j := by omega
              have e0 : (j : Int) ≤ 8 := by omega
              have e1 : w64 ((j : Int) + 1) = ((j + 1 : Nat) : Int) := by rw [w64_d (by omega) (by omega)]; omega
              have e2 : ¬ (j : Int) < 0 := by omega
              have e3 : ¬ (7 : Int) < j := by omega
              have e4 : (0 : Int) ≤ j := by omega
              have e5 : (j : Int) < 8 := by omega
              have e6 : ((j + 2 : Nat) : Int) - 1 = ((j + 1 : Nat) : Int) := by omega
              obtain ⟨y, hy⟩ := sl_some hw.1 j8
              obtain ⟨c0, c1⟩ := refC_cell hw.1 hy
              have q1 := p1 j [.own (refC R)]
              have q2 := p2 j q [.own (refC R)]
              have kB : hasT R j q = (y.is && decide (y.ln = q)) := by unfold hasT; rw [at8_k j8 hy, in8_k j8]; rfl
              rw [at8_k j8 hy] at q1
              rw [kB] at q2
              cases hy1 : y.is
              · have hz := hw.2 y (List.mem_of_getElem? hy) hy1
                rw [hz] at c1 q1
                rw [hy1] at c0 q1 q2
                rw [Bool.false_and] at q2
                (try simp (config := { maxSteps := 10000000 }) only [go_sem, List.reduceReplicate, BitVec.reduceOfInt, BitVec.reduceToNat, BitVec.reduceToInt, BitVec.reduceEq, BitVec.reduceLT, BitVec.reduceLE, BitVec.reduceAdd, BitVec.reduceSub, BitVec.reduceMul, BitVec.reduceUDiv, BitVec.reduceUMod, BitVec.reduceAnd, BitVec.reduceOr, BitVec.reduceXOr, BitVec.reduceNot, BitVec.reduceNeg, BitVec.reduceHShiftLeft, BitVec.reduceHShiftRight, Nat.reduceAdd, Nat.reduceMul, Nat.reduceSub, Nat.reduceBEq, Nat.reduceEqDiff, Nat.reduceLeDiff, Nat.reduceLT, Int.reduceLE, Int.reduceLT, Int.reduceAdd, Int.reduceSub, Int.reduceMul, Int.reduceNeg, Int.reduceToNat, Int.reduceEq, ↓reduceIte, reduceCtorEq, eJ, e0, e1, e2, e3, e4, e5, q1, q2, c0, c1, lR, Int.toNat_natCast]; repeat (simp (disch := omega) only [w64_d, ipos, ineg, dpos, dneg]; try simp (config := { maxSteps := 10000000 }) only [go_sem, List.reduceReplicate, BitVec.reduceOfInt, BitVec.reduceToNat, BitVec.reduceToInt, BitVec.reduceEq, BitVec.reduceLT, BitVec.reduceLE, BitVec.reduceAdd, BitVec.reduceSub, BitVec.reduceMul, BitVec.reduceUDiv, BitVec.reduceUMod, BitVec.reduceAnd, BitVec.reduceOr, BitVec.reduceXOr, BitVec.reduceNot, BitVec.reduceNeg, BitVec.reduceHShiftLeft, BitVec.reduceHShiftRight, Nat.reduceAdd, Nat.reduceMul, Nat.reduceSub, Nat.reduceBEq, Nat.reduceEqDiff, Nat.reduceLeDiff, Nat.reduceLT, Int.reduceLE, Int.reduceLT, Int.reduceAdd, Int.reduceSub, Int.reduceMul, Int.reduceNeg, Int.reduceToNat, Int.reduceEq, ↓reduceIte, reduceCtorEq, eJ, e0, e1, e2, e3, e4, e5, q1, q2, c0, c1, lR, Int.toNat_natCast]))
                exact ⟨j + 2, by omega, by omega, by rw [e6]; exact Wk.wk (by simp [lo]) (by simp [Am.get]) (by simp [AV.bel, bx2]; simp [Sc.bel]) (subH_refl _) (bb [] (by simp))⟩
              · rw [hy1] at c0 q1 q2
                rw [Bool.true_and] at q2
                by_cases hq : y.ln = q
                · have hq' := eq_true hq
                  rw [decide_eq_true hq] at q2
                  (try simp (config := { maxSteps := 10000000 }) only [go_sem, List.reduceReplicate, BitVec.reduceOfInt, BitVec.reduceToNat, BitVec.reduceToInt, BitVec.reduceEq, BitVec.reduceLT, BitVec.reduceLE, BitVec.reduceAdd, BitVec.reduceSub, BitVec.reduceMul, BitVec.reduceUDiv, BitVec.reduceUMod, BitVec.reduceAnd, BitVec.reduceOr, BitVec.reduceXOr, BitVec.reduceNot, BitVec.reduceNeg, BitVec.reduceHShiftLeft, BitVec.reduceHShiftRight, Nat.reduceAdd, Nat.reduceMul, Nat.reduceSub, Nat.reduceBEq, Nat.reduceEqDiff, Nat.reduceLeDiff, Nat.reduceLT, Int.reduceLE, Int.reduceLT, Int.reduceAdd, Int.reduceSub, Int.reduceMul, Int.reduceNeg, Int.reduceToNat, Int.reduceEq, ↓reduceIte, reduceCtorEq, eJ, e0, e1, e2, e3, e4, e5, q1, q2, c0, c1, lR, hq', Int.toNat_natCast]; repeat (simp (disch := omega) only [w64_d, ipos, ineg, dpos, dneg]; try simp (config := { maxSteps := 10000000 }) only [go_sem, List.reduceReplicate, BitVec.reduceOfInt, BitVec.reduceToNat, BitVec.reduceToInt, BitVec.reduceEq, BitVec.reduceLT, BitVec.reduceLE, BitVec.reduceAdd, BitVec.reduceSub, BitVec.reduceMul, BitVec.reduceUDiv, BitVec.reduceUMod, BitVec.reduceAnd, BitVec.reduceOr, BitVec.reduceXOr, BitVec.reduceNot, BitVec.reduceNeg, BitVec.reduceHShiftLeft, BitVec.reduceHShiftRight, Nat.reduceAdd, Nat.reduceMul, Nat.reduceSub, Nat.reduceBEq, Nat.reduceEqDiff, Nat.reduceLeDiff, Nat.reduceLT, Int.reduceLE, Int.reduceLT, Int.reduceAdd, Int.reduceSub, Int.reduceMul, Int.reduceNeg, Int.reduceToNat, Int.reduceEq, ↓reduceIte, reduceCtorEq, eJ, e0, e1, e2, e3, e4, e5, q1, q2, c0, c1, lR, hq', Int.toNat_natCast]))
                  exact ⟨j + 2, by omega, by omega, by rw [e6]; exact Wk.wk (by simp [lo]) (by simp [Am.get]) (by simp [AV.bel, bx2]; simp [Sc.bel]) (subH_refl _) (bb [] (by simp))⟩
                · have hq' := eq_false hq
                  rw [decide_eq_false hq] at q2
                  (try simp (config := { maxSteps := 10000000 }) only [go_sem, List.reduceReplicate, BitVec.reduceOfInt, BitVec.reduceToNat, BitVec.reduceToInt, BitVec.reduceEq, BitVec.reduceLT, BitVec.reduceLE, BitVec.reduceAdd, BitVec.reduceSub, BitVec.reduceMul, BitVec.reduceUDiv, BitVec.reduceUMod, BitVec.reduceAnd, BitVec.reduceOr, BitVec.reduceXOr, BitVec.reduceNot, BitVec.reduceNeg, BitVec.reduceHShiftLeft, BitVec.reduceHShiftRight, Nat.reduceAdd, Nat.reduceMul, Nat.reduceSub, Nat.reduceBEq, Nat.reduceEqDiff, Nat.reduceLeDiff, Nat.reduceLT, Int.reduceLE, Int.reduceLT, Int.reduceAdd, Int.reduceSub, Int.reduceMul, Int.reduceNeg, Int.reduceToNat, Int.reduceEq, ↓reduceIte, reduceCtorEq, eJ, e0, e1, e2, e3, e4, e5, q1, q2, c0, c1, lR, hq', Int.toNat_natCast]; repeat (simp (disch := omega) only [w64_d, ipos, ineg, dpos, dneg]; try simp (config := { maxSteps := 10000000 }) only [go_sem, List.reduceReplicate, BitVec.reduceOfInt, BitVec.reduceToNat, BitVec.reduceToInt, BitVec.reduceEq, BitVec.reduceLT, BitVec.reduceLE, BitVec.reduceAdd, BitVec.reduceSub, BitVec.reduceMul, BitVec.reduceUDiv, BitVec.reduceUMod, BitVec.reduceAnd, BitVec.reduceOr, BitVec.reduceXOr, BitVec.reduceNot, BitVec.reduceNeg, BitVec.reduceHShiftLeft, BitVec.reduceHShiftRight, Nat.reduceAdd, Nat.reduceMul, Nat.reduceSub, Nat.reduceBEq, Nat.reduceEqDiff, Nat.reduceLeDiff, Nat.reduceLT, Int.reduceLE, Int.reduceLT, Int.reduceAdd, Int.reduceSub, Int.reduceMul, Int.reduceNeg, Int.reduceToNat, Int.reduceEq, ↓reduceIte, reduceCtorEq, eJ, e0, e1, e2, e3, e4, e5, q1, q2, c0, c1, lR, hq', Int.toNat_natCast]))
                  exact ⟨j + 2, by omega, by omega, by rw [e6]; exact Wk.wk (by simp [lo]) (by simp [Am.get]) (by simp [AV.bel, bx2]; simp [Sc.bel]) (subH_refl _) (bb [] (by simp))⟩
          · obtain rfl : k = 10 := by omega
            have r1 := s_vlines_eq (hX [.own (refC R)])
            have r2 := fun H => s_vrlines_eq (H := H) hw.1
            have l8 : (linO (some R)).length ≤ 8 := by simp only [linO]; rw [srt_len]; exact linN_len
            have w8 : (whoN R q 8).length ≤ 8 := whoN_len
            have wo : whoO (some R) q = whoN R q 8 := rfl
            have r3 := fun X => s_vwho_eq (l := q) (hX X)
            have r4 := fun H => s_vrwho_eq (H := H) (x := q) hw.1
            rw [wo] at r3
            (try simp (config := { maxSteps := 10000000 }) only [go_sem, List.reduceReplicate, BitVec.reduceOfInt, BitVec.reduceToNat, BitVec.reduceToInt, BitVec.reduceEq, BitVec.reduceLT, BitVec.reduceLE, BitVec.reduceAdd, BitVec.reduceSub, BitVec.reduceMul, BitVec.reduceUDiv, BitVec.reduceUMod, BitVec.reduceAnd, BitVec.reduceOr, BitVec.reduceXOr, BitVec.reduceNot, BitVec.reduceNeg, BitVec.reduceHShiftLeft, BitVec.reduceHShiftRight, Nat.reduceAdd, Nat.reduceMul, Nat.reduceSub, Nat.reduceBEq, Nat.reduceEqDiff, Nat.reduceLeDiff, Nat.reduceLT, Int.reduceLE, Int.reduceLT, Int.reduceAdd, Int.reduceSub, Int.reduceMul, Int.reduceNeg, Int.reduceToNat, Int.reduceEq, ↓reduceIte, reduceCtorEq, r1, r2, tk, oR, lR]; repeat (simp (disch := omega) only [w64_d, ipos, ineg, dpos, dneg]; try simp (config := { maxSteps := 10000000 }) only [go_sem, List.reduceReplicate, BitVec.reduceOfInt, BitVec.reduceToNat, BitVec.reduceToInt, BitVec.reduceEq, BitVec.reduceLT, BitVec.reduceLE, BitVec.reduceAdd, BitVec.reduceSub, BitVec.reduceMul, BitVec.reduceUDiv, BitVec.reduceUMod, BitVec.reduceAnd, BitVec.reduceOr, BitVec.reduceXOr, BitVec.reduceNot, BitVec.reduceNeg, BitVec.reduceHShiftLeft, BitVec.reduceHShiftRight, Nat.reduceAdd, Nat.reduceMul, Nat.reduceSub, Nat.reduceBEq, Nat.reduceEqDiff, Nat.reduceLeDiff, Nat.reduceLT, Int.reduceLE, Int.reduceLT, Int.reduceAdd, Int.reduceSub, Int.reduceMul, Int.reduceNeg, Int.reduceToNat, Int.reduceEq, ↓reduceIte, reduceCtorEq, r1, r2, tk, oR, lR]))
            generalize linO (some R) = D at l8 ⊢
            generalize whoN R q 8 = W at w8 r3 r4
            have bx3 := Sc.bel_mono bx (show H.length ≤ H.length + 3 by omega)
            refine ⟨by repeat' first | apply And.intro | (intro _; kernel_rfl) | kernel_rfl, ?_⟩
            have bD : ∀ o ∈ [AObj.vec 1 (D.map gU), .vec 1 (D.map gU)], ∀ n, o.scs.all (Sc.bel n) = true := by
              simp only [List.mem_cons, List.not_mem_nil, or_false, forall_eq_or_imp, forall_eq]
              exact ⟨fun n => map_bel gU_num _ _, fun n => map_bel gU_num _ _⟩
            have r5 : s_ints [.c (.sl (H.length + 3) 0 W.length W.length), .c (.sl (H.length + 4) 0 W.length W.length)] (H ++ [.own (refC R), .vec 1 (D.map gU), .vec 1 (D.map gU), .vec 1 (W.map gI), .vec 1 (W.map gI)]) = some (.c (.b true)) :=
              s_ints_eq (slP_vec (g := gI) (fun _ => rfl) (by rw [hg_len_add]; rfl) rfl rfl) (slP_vec (g := gI) (fun _ => rfl) (by rw [hg_len_add]; rfl) rfl rfl) (by omega)
            refine arun_for D.length (fun n => ([(0, .c x), (2, .c (.u q)), (4, .c (.p H.length 0 0)), (10, .c (.sl (H.length + 1) 0 D.length D.length)), (11, .c (.sl (H.length + 2) 0 D.length D.length)), (12, .c (.i n))], H ++ [.own (refC R), .vec 1 (D.map gU), .vec 1 (D.map gU)])) ?_ fun n hn => ?_
            · exact Wk.wk (by simp [lo]) (by simp [Am.get]) (by simp [AV.bel, bx3]; simp [Sc.bel]) (subH_refl _) (bb _ bD)
            · by_cases hlt : n < D.length
              · have e0 : (n : Int) < D.length := by omega
                have e1 : w64 ((n : Int) + 1) = ((n + 1 : Nat) : Int) := by rw [w64_d (by omega) (by omega)]; omega
                have e4 : (0 : Int) ≤ n := by omega
                have q1 : n + 1 ≤ D.length := by omega
                have c1 := map_getD (g := gU) (List.getElem?_eq_getElem hlt)
                (try simp (config := { maxSteps := 10000000 }) only [go_sem, List.reduceReplicate, BitVec.reduceOfInt, BitVec.reduceToNat, BitVec.reduceToInt, BitVec.reduceEq, BitVec.reduceLT, BitVec.reduceLE, BitVec.reduceAdd, BitVec.reduceSub, BitVec.reduceMul, BitVec.reduceUDiv, BitVec.reduceUMod, BitVec.reduceAnd, BitVec.reduceOr, BitVec.reduceXOr, BitVec.reduceNot, BitVec.reduceNeg, BitVec.reduceHShiftLeft, BitVec.reduceHShiftRight, Nat.reduceAdd, Nat.reduceMul, Nat.reduceSub, Nat.reduceBEq, Nat.reduceEqDiff, Nat.reduceLeDiff, Nat.reduceLT, Int.reduceLE, Int.reduceLT, Int.reduceAdd, Int.reduceSub, Int.reduceMul, Int.reduceNeg, Int.reduceToNat, Int.reduceEq, ↓reduceIte, reduceCtorEq, e0, e1, e4, c1, q1, gU, List.length_map, Int.toNat_natCast]; repeat (simp (disch := omega) only [w64_d, ipos, ineg, dpos, dneg]; try simp (config := { maxSteps := 10000000 }) only [go_sem, List.reduceReplicate, BitVec.reduceOfInt, BitVec.reduceToNat, BitVec.reduceToInt, BitVec.reduceEq, BitVec.reduceLT, BitVec.reduceLE, BitVec.reduceAdd, BitVec.reduceSub, BitVec.reduceMul, BitVec.reduceUDiv, BitVec.reduceUMod, BitVec.reduceAnd, BitVec.reduceOr, BitVec.reduceXOr, BitVec.reduceNot, BitVec.reduceNeg, BitVec.reduceHShiftLeft, BitVec.reduceHShiftRight, Nat.reduceAdd, Nat.reduceMul, Nat.reduceSub, Nat.reduceBEq, Nat.reduceEqDiff, Nat.reduceLeDiff, Nat.reduceLT, Int.reduceLE, Int.reduceLT, Int.reduceAdd, Int.reduceSub, Int.reduceMul, Int.reduceNeg, Int.reduceToNat, Int.reduceEq, ↓reduceIte, reduceCtorEq, e0, e1, e4, c1, q1, gU, List.length_map, Int.toNat_natCast]))
                exact ⟨n + 1, by omega, by omega, Wk.wk (by simp [lo]) (by simp [Am.get]) (by simp [AV.bel, bx3]; simp [Sc.bel]) (subH_refl _) (bb _ bD)⟩
              · obtain rfl : n = D.length := by omega
                (try simp (config := { maxSteps := 10000000 }) only [go_sem, List.reduceReplicate, BitVec.reduceOfInt, BitVec.reduceToNat, BitVec.reduceToInt, BitVec.reduceEq, BitVec.reduceLT, BitVec.reduceLE, BitVec.reduceAdd, BitVec.reduceSub, BitVec.reduceMul, BitVec.reduceUDiv, BitVec.reduceUMod, BitVec.reduceAnd, BitVec.reduceOr, BitVec.reduceXOr, BitVec.reduceNot, BitVec.reduceNeg, BitVec.reduceHShiftLeft, BitVec.reduceHShiftRight, Nat.reduceAdd, Nat.reduceMul, Nat.reduceSub, Nat.reduceBEq, Nat.reduceEqDiff, Nat.reduceLeDiff, Nat.reduceLT, Int.reduceLE, Int.reduceLT, Int.reduceAdd, Int.reduceSub, Int.reduceMul, Int.reduceNeg, Int.reduceToNat, Int.reduceEq, ↓reduceIte, reduceCtorEq, r3, r4, tk, oR, lR]; repeat (simp (disch := omega) only [w64_d, ipos, ineg, dpos, dneg]; try simp (config := { maxSteps := 10000000 }) only [go_sem, List.reduceReplicate, BitVec.reduceOfInt, BitVec.reduceToNat, BitVec.reduceToInt, BitVec.reduceEq, BitVec.reduceLT, BitVec.reduceLE, BitVec.reduceAdd, BitVec.reduceSub, BitVec.reduceMul, BitVec.reduceUDiv, BitVec.reduceUMod, BitVec.reduceAnd, BitVec.reduceOr, BitVec.reduceXOr, BitVec.reduceNot, BitVec.reduceNeg, BitVec.reduceHShiftLeft, BitVec.reduceHShiftRight, Nat.reduceAdd, Nat.reduceMul, Nat.reduceSub, Nat.reduceBEq, Nat.reduceEqDiff, Nat.reduceLeDiff, Nat.reduceLT, Int.reduceLE, Int.reduceLT, Int.reduceAdd, Int.reduceSub, Int.reduceMul, Int.reduceNeg, Int.reduceToNat, Int.reduceEq, ↓reduceIte, reduceCtorEq, r3, r4, tk, oR, lR]))
                refine ⟨by repeat' first | apply And.intro | (intro _; kernel_rfl) | kernel_rfl, ?_⟩
                (try simp (config := { maxSteps := 10000000 }) only [go_sem, List.reduceReplicate, BitVec.reduceOfInt, BitVec.reduceToNat, BitVec.reduceToInt, BitVec.reduceEq, BitVec.reduceLT, BitVec.reduceLE, BitVec.reduceAdd, BitVec.reduceSub, BitVec.reduceMul, BitVec.reduceUDiv, BitVec.reduceUMod, BitVec.reduceAnd, BitVec.reduceOr, BitVec.reduceXOr, BitVec.reduceNot, BitVec.reduceNeg, BitVec.reduceHShiftLeft, BitVec.reduceHShiftRight, Nat.reduceAdd, Nat.reduceMul, Nat.reduceSub, Nat.reduceBEq, Nat.reduceEqDiff, Nat.reduceLeDiff, Nat.reduceLT, Int.reduceLE, Int.reduceLT, Int.reduceAdd, Int.reduceSub, Int.reduceMul, Int.reduceNeg, Int.reduceToNat, Int.reduceEq, ↓reduceIte, reduceCtorEq, r5]; repeat (simp (disch := omega) only [w64_d, ipos, ineg, dpos, dneg]; try simp (config := { maxSteps := 10000000 }) only [go_sem, List.reduceReplicate, BitVec.reduceOfInt, BitVec.reduceToNat, BitVec.reduceToInt, BitVec.reduceEq, BitVec.reduceLT, BitVec.reduceLE, BitVec.reduceAdd, BitVec.reduceSub, BitVec.reduceMul, BitVec.reduceUDiv, BitVec.reduceUMod, BitVec.reduceAnd, BitVec.reduceOr, BitVec.reduceXOr, BitVec.reduceNot, BitVec.reduceNeg, BitVec.reduceHShiftLeft, BitVec.reduceHShiftRight, Nat.reduceAdd, Nat.reduceMul, Nat.reduceSub, Nat.reduceBEq, Nat.reduceEqDiff, Nat.reduceLeDiff, Nat.reduceLT, Int.reduceLE, Int.reduceLT, Int.reduceAdd, Int.reduceSub, Int.reduceMul, Int.reduceNeg, Int.reduceToNat, Int.reduceEq, ↓reduceIte, reduceCtorEq, r5]))
                exact ⟨⟨by kernel_rfl, by kernel_rfl⟩, subH_app _ _⟩
      · simp at h
    · simp at h
  · simp at h
end
end Go.Proofs.Ytbnfapacbfeabaa
