/- Layer 13: the reference's table, more; a deed to both: contracts. -/
import Derived.Test.YtbnfapacbfeabaaRv3
namespace Go.Proofs.Ytbnfapacbfeabaa
open Go.Am
set_option linter.unusedSimpArgs false
set_option linter.unusedVariables false
noncomputable section

def s_vrclear (args : List AV) : Option AV :=
  match args with
  | [.g l, .c (.i h)] => if isRf l then some (.t [.g (refC (setT (rfT l) h z0)), .c (.b (at8 (rfT l) h).is)]) else none
  | _ => none
theorem s_vrclear_eq {l h} : s_vrclear [.g l, .c (.i h)] = if isRf l then some (.t [.g (refC (setT (rfT l) h z0)), .c (.b (at8 (rfT l) h).is)]) else none := rfl
set_option maxRecDepth 100000 in
set_option maxHeartbeats 2000000 in
theorem ok_vrclear : PuOk Try.prog 16 s_vrclear := by
  refine pu_ok (tab := []) hmix TabOk.nil Try.func16 rfl Try.results16 Try.ntmps16 (by kernel_rfl) (by kernel_rfl) ?_
  intro args v h
  unfold s_vrclear at h
  split at h
  · rename_i l h
    split at h
    · rename_i hc
      simp only [Option.some.injEq] at h; subst h
      obtain ⟨R, hR, rfl⟩ := hc
      have pl := @refC_pf R
      have p2 := @refC_pf (setT R h z0)
      rw [rfT_of hR]
      refine ⟨by simp only [List.length_cons, List.length_nil]; decide, by first | rfl | simp only [List.all_cons, List.all_nil, AV.pf, Sc.pf, Bool.and_true, *], by first | rfl | simp only [List.all_cons, List.all_nil, AV.pf, Sc.pf, Bool.and_true, *], ?_⟩
      have lR := refC_l hR
      have tk : (refC R).take 16 = refC R := by rw [← lR, List.take_length]
      have o1 := @refC_one R
      cases hi : in8 h
      · have e : setT R h z0 = R := by unfold setT; rw [if_neg (by rw [hi]; decide)]
        have e2 : (at8 R h).is = false := by unfold at8; rw [if_neg (by rw [hi]; decide)]; rfl
        simp only [in8, Bool.and_eq_false_iff, decide_eq_false_iff_not] at hi
        rw [e, e2]
        by_cases h1 : h < 0
        · (try simp (config := { maxSteps := 10000000 }) only [go_sem, List.reduceReplicate, BitVec.reduceOfInt, BitVec.reduceToNat, BitVec.reduceToInt, BitVec.reduceEq, BitVec.reduceLT, BitVec.reduceLE, BitVec.reduceAdd, BitVec.reduceSub, BitVec.reduceMul, BitVec.reduceUDiv, BitVec.reduceUMod, BitVec.reduceAnd, BitVec.reduceOr, BitVec.reduceXOr, BitVec.reduceNot, BitVec.reduceNeg, BitVec.reduceHShiftLeft, BitVec.reduceHShiftRight, Nat.reduceAdd, Nat.reduceMul, Nat.reduceSub, Nat.reduceBEq, Nat.reduceEqDiff, Nat.reduceLeDiff, Nat.reduceLT, Int.reduceLE, Int.reduceLT, Int.reduceAdd, Int.reduceSub, Int.reduceMul, Int.reduceNeg, Int.reduceToNat, Int.reduceEq, ↓reduceIte, reduceCtorEq, h1, lR, tk, o1]; repeat (simp (disch := omega) only [w64_d, ipos, ineg, dpos, dneg]; try simp (config := { maxSteps := 10000000 }) only [go_sem, List.reduceReplicate, BitVec.reduceOfInt, BitVec.reduceToNat, BitVec.reduceToInt, BitVec.reduceEq, BitVec.reduceLT, BitVec.reduceLE, BitVec.reduceAdd, BitVec.reduceSub, BitVec.reduceMul, BitVec.reduceUDiv, BitVec.reduceUMod, BitVec.reduceAnd, BitVec.reduceOr, BitVec.reduceXOr, BitVec.reduceNot, BitVec.reduceNeg, BitVec.reduceHShiftLeft, BitVec.reduceHShiftRight, Nat.reduceAdd, Nat.reduceMul, Nat.reduceSub, Nat.reduceBEq, Nat.reduceEqDiff, Nat.reduceLeDiff, Nat.reduceLT, Int.reduceLE, Int.reduceLT, Int.reduceAdd, Int.reduceSub, Int.reduceMul, Int.reduceNeg, Int.reduceToNat, Int.reduceEq, ↓reduceIte, reduceCtorEq, h1, lR, tk, o1]))
        · have h2 : 7 < h := by omega
          (try simp (config := { maxSteps := 10000000 }) only [go_sem, List.reduceReplicate, BitVec.reduceOfInt, BitVec.reduceToNat, BitVec.reduceToInt, BitVec.reduceEq, BitVec.reduceLT, BitVec.reduceLE, BitVec.reduceAdd, BitVec.reduceSub, BitVec.reduceMul, BitVec.reduceUDiv, BitVec.reduceUMod, BitVec.reduceAnd, BitVec.reduceOr, BitVec.reduceXOr, BitVec.reduceNot, BitVec.reduceNeg, BitVec.reduceHShiftLeft, BitVec.reduceHShiftRight, Nat.reduceAdd, Nat.reduceMul, Nat.reduceSub, Nat.reduceBEq, Nat.reduceEqDiff, Nat.reduceLeDiff, Nat.reduceLT, Int.reduceLE, Int.reduceLT, Int.reduceAdd, Int.reduceSub, Int.reduceMul, Int.reduceNeg, Int.reduceToNat, Int.reduceEq, ↓reduceIte, reduceCtorEq, h1, h2, lR, tk, o1]; repeat (simp (disch := omega) only [w64_d, ipos, ineg, dpos, dneg]; try simp (config := { maxSteps := 10000000 }) only [go_sem, List.reduceReplicate, BitVec.reduceOfInt, BitVec.reduceToNat, BitVec.reduceToInt, BitVec.reduceEq, BitVec.reduceLT, BitVec.reduceLE, BitVec.reduceAdd, BitVec.reduceSub, BitVec.reduceMul, BitVec.reduceUDiv, BitVec.reduceUMod, BitVec.reduceAnd, BitVec.reduceOr, BitVec.reduceXOr, BitVec.reduceNot, BitVec.reduceNeg, BitVec.reduceHShiftLeft, BitVec.reduceHShiftRight, Nat.reduceAdd, Nat.reduceMul, Nat.reduceSub, Nat.reduceBEq, Nat.reduceEqDiff, Nat.reduceLeDiff, Nat.reduceLT, Int.reduceLE, Int.reduceLT, Int.reduceAdd, Int.reduceSub, Int.reduceMul, Int.reduceNeg, Int.reduceToNat, Int.reduceEq, ↓reduceIte, reduceCtorEq, h1, h2, lR, tk, o1]))
      · obtain ⟨k, rfl, hk⟩ := in8_nat hi
        obtain ⟨y, hy⟩ := sl_some hR hk
        obtain ⟨c0, c1⟩ := refC_cell hR hy
        have e : setT R k z0 = R.set k z0 := by unfold setT; rw [if_pos hi]; rfl
        have e2 := at8_k hk hy
        have w1 := refC_set1 (q := false) hR hk
        have w2 : wr ((R.map (fun x => Sc.b x.is)).set k (.b false) ++ R.map fun x => Sc.u x.ln) (8 + k) [.u 0#64] = refC (R.set k z0) := refC_set2 (q := false) (l := 0#64) hR hk
        have l2 : ((R.map (fun x => Sc.b x.is)).set k (.b false) ++ R.map fun x => Sc.u x.ln).length = 16 := by simp [hR]
        have l3 := refC_l (R := R.set k z0) (by simp [hR])
        have tk3 : (refC (R.set k z0)).take 16 = refC (R.set k z0) := by rw [← l3, List.take_length]
        have o3 := @refC_one (R.set k z0)
        have h1 : ¬ (k : Int) < 0 := by omega
        have h2 : ¬ (7 : Int) < k := by omega
        rw [e, e2]
        (try simp (config := { maxSteps := 10000000 }) only [go_sem, List.reduceReplicate, BitVec.reduceOfInt, BitVec.reduceToNat, BitVec.reduceToInt, BitVec.reduceEq, BitVec.reduceLT, BitVec.reduceLE, BitVec.reduceAdd, BitVec.reduceSub, BitVec.reduceMul, BitVec.reduceUDiv, BitVec.reduceUMod, BitVec.reduceAnd, BitVec.reduceOr, BitVec.reduceXOr, BitVec.reduceNot, BitVec.reduceNeg, BitVec.reduceHShiftLeft, BitVec.reduceHShiftRight, Nat.reduceAdd, Nat.reduceMul, Nat.reduceSub, Nat.reduceBEq, Nat.reduceEqDiff, Nat.reduceLeDiff, Nat.reduceLT, Int.reduceLE, Int.reduceLT, Int.reduceAdd, Int.reduceSub, Int.reduceMul, Int.reduceNeg, Int.reduceToNat, Int.reduceEq, ↓reduceIte, reduceCtorEq, h1, h2, lR, w1, w2, l2, l3, tk3, o3, c0, Int.toNat_natCast]; repeat (simp (disch := omega) only [w64_d, ipos, ineg, dpos, dneg]; try simp (config := { maxSteps := 10000000 }) only [go_sem, List.reduceReplicate, BitVec.reduceOfInt, BitVec.reduceToNat, BitVec.reduceToInt, BitVec.reduceEq, BitVec.reduceLT, BitVec.reduceLE, BitVec.reduceAdd, BitVec.reduceSub, BitVec.reduceMul, BitVec.reduceUDiv, BitVec.reduceUMod, BitVec.reduceAnd, BitVec.reduceOr, BitVec.reduceXOr, BitVec.reduceNot, BitVec.reduceNeg, BitVec.reduceHShiftLeft, BitVec.reduceHShiftRight, Nat.reduceAdd, Nat.reduceMul, Nat.reduceSub, Nat.reduceBEq, Nat.reduceEqDiff, Nat.reduceLeDiff, Nat.reduceLT, Int.reduceLE, Int.reduceLT, Int.reduceAdd, Int.reduceSub, Int.reduceMul, Int.reduceNeg, Int.reduceToNat, Int.reduceEq, ↓reduceIte, reduceCtorEq, h1, h2, lR, w1, w2, l2, l3, tk3, o3, c0, Int.toNat_natCast]))
    · simp at h
  · simp at h
def Z8 : List Sl := List.replicate 8 z0
theorem Z8_l : Z8.length = 8 := rfl
theorem Z8_c : refC Z8 = [.b false, .b false, .b false, .b false, .b false, .b false, .b false, .b false, .u 0#64, .u 0#64, .u 0#64, .u 0#64, .u 0#64, .u 0#64, .u 0#64, .u 0#64] := rfl
theorem Z8_t : tabC Z8 = [.b false, .u 0#64, .b false, .u 0#64, .b false, .u 0#64, .b false, .u 0#64, .b false, .u 0#64, .b false, .u 0#64, .b false, .u 0#64, .b false, .u 0#64] := rfl
set_option maxHeartbeats 4000000 in
def s_vrkill (args : List AV) : Option AV :=
  match args with
  | [.g l, .c (.u x), .c (.i but)] => if isRf l then some (.t [.g (refC (killN (rfT l) x but 8)), .c (.i (cntN (rfT l) x but 8))]) else none
  | _ => none
theorem s_vrkill_eq {l x but} : s_vrkill [.g l, .c (.u x), .c (.i but)] = if isRf l then some (.t [.g (refC (killN (rfT l) x but 8)), .c (.i (cntN (rfT l) x but 8))]) else none := rfl
set_option maxRecDepth 100000 in
set_option maxHeartbeats 2000000 in
theorem ok_vrkill : PuOk Try.prog 17 s_vrkill := by
  refine pu_ok (tab := []) hmix TabOk.nil Try.func17 rfl Try.results17 Try.ntmps17 (by kernel_rfl) (by kernel_rfl) ?_
  intro args v h
  unfold s_vrkill at h
  split at h
  · rename_i l x but
    split at h
    · rename_i hc
      simp only [Option.some.injEq] at h; subst h
      obtain ⟨R, hR, rfl⟩ := hc
      have pl := @refC_pf R
      have p2 := @refC_pf (killN R x but 8)
      rw [rfT_of hR]
      refine ⟨by simp only [List.length_cons, List.length_nil]; decide, by first | rfl | simp only [List.all_cons, List.all_nil, AV.pf, Sc.pf, Bool.and_true, *], by first | rfl | simp only [List.all_cons, List.all_nil, AV.pf, Sc.pf, Bool.and_true, *], ?_⟩
      (try simp (config := { maxSteps := 10000000 }) only [go_sem, List.reduceReplicate, BitVec.reduceOfInt, BitVec.reduceToNat, BitVec.reduceToInt, BitVec.reduceEq, BitVec.reduceLT, BitVec.reduceLE, BitVec.reduceAdd, BitVec.reduceSub, BitVec.reduceMul, BitVec.reduceUDiv, BitVec.reduceUMod, BitVec.reduceAnd, BitVec.reduceOr, BitVec.reduceXOr, BitVec.reduceNot, BitVec.reduceNeg, BitVec.reduceHShiftLeft, BitVec.reduceHShiftRight, Nat.reduceAdd, Nat.reduceMul, Nat.reduceSub, Nat.reduceBEq, Nat.reduceEqDiff, Nat.reduceLeDiff, Nat.reduceLT, Int.reduceLE, Int.reduceLT, Int.reduceAdd, Int.reduceSub, Int.reduceMul, Int.reduceNeg, Int.reduceToNat, Int.reduceEq, ↓reduceIte, reduceCtorEq]; repeat (simp (disch := omega) only [w64_d, ipos, ineg, dpos, dneg]; try simp (config := { maxSteps := 10000000 }) only [go_sem, List.reduceReplicate, BitVec.reduceOfInt, BitVec.reduceToNat, BitVec.reduceToInt, BitVec.reduceEq, BitVec.reduceLT, BitVec.reduceLE, BitVec.reduceAdd, BitVec.reduceSub, BitVec.reduceMul, BitVec.reduceUDiv, BitVec.reduceUMod, BitVec.reduceAnd, BitVec.reduceOr, BitVec.reduceXOr, BitVec.reduceNot, BitVec.reduceNeg, BitVec.reduceHShiftLeft, BitVec.reduceHShiftRight, Nat.reduceAdd, Nat.reduceMul, Nat.reduceSub, Nat.reduceBEq, Nat.reduceEqDiff, Nat.reduceLeDiff, Nat.reduceLT, Int.reduceLE, Int.reduceLT, Int.reduceAdd, Int.reduceSub, Int.reduceMul, Int.reduceNeg, Int.reduceToNat, Int.reduceEq, ↓reduceIte, reduceCtorEq]))
      refine arun_for 8 (fun k => ([(1, .c (.u x)), (2, .c (.i but)), (3, .c (.p 0 0 0)), (6, .c (.p 1 0 0)), (8, .c (.i (cntN R x but k))), (9, .c (.i k))], [.own (refC (killN R x but k)), .own (refC Z8)])) ?_ fun k hk => ?_
      · rw [Z8_c]
        exact Wk.wk (Nat.zero_le _) (by simp [Am.get, cntN]) (by simp [AV.bel, Sc.bel]) (subH_refl _) (by simp only [List.all_cons, List.all_nil, AObj.scs, refC_bel, Sc.bel]; rfl)
      · have kl : (killN R x but k).length = 8 := by rw [killN_len, hR]
        have cl := cntN_le (R := R) (l := x) (but := but) (k := k)
        have lK := refC_l kl
        have tkK : (refC (killN R x but k)).take 16 = refC (killN R x but k) := by rw [← lK, List.take_length]
        have oK := @refC_one (killN R x but k)
        have lZ := refC_l Z8_l
        by_cases hlt : k < 8
        · have e0 : (k : Int) < 8 := by omega
          have e4 : (0 : Int) ≤ k := by omega
          have e1 : w64 ((k : Int) + 1) = ((k + 1 : Nat) : Int) := by rw [w64_d (by omega) (by omega)]; omega
          have e2 : w64 ((cntN R x but k : Int) + 1) = ((cntN R x but k + 1 : Nat) : Int) := by rw [w64_d (by omega) (by omega)]; omega
          obtain ⟨y, hy⟩ := sl_some hR hlt
          have hyK : (killN R x but k)[k]? = some y := by rw [killN_get, if_neg (by omega)]; exact hy
          obtain ⟨c0, c1⟩ := refC_cell kl hyK
          have kS : killN R x but (k + 1) = if killB R x but k = true then (killN R x but k).set k z0 else killN R x but k := rfl
          have cS : cntN R x but (k + 1) = if killB R x but k = true then cntN R x but k + 1 else cntN R x but k := rfl
          have kB : killB R x but k = (!decide ((k : Int) = but) && (y.is && decide (y.ln = x))) := by unfold killB hasT; rw [at8_k hlt hy, in8_k hlt]; rfl
          by_cases hb : (k : Int) = but
          · have hb' := eq_true hb
            rw [show killB R x but k = false by rw [kB]; simp [hb], if_neg (by decide)] at kS cS
            (try simp (config := { maxSteps := 10000000 }) only [go_sem, List.reduceReplicate, BitVec.reduceOfInt, BitVec.reduceToNat, BitVec.reduceToInt, BitVec.reduceEq, BitVec.reduceLT, BitVec.reduceLE, BitVec.reduceAdd, BitVec.reduceSub, BitVec.reduceMul, BitVec.reduceUDiv, BitVec.reduceUMod, BitVec.reduceAnd, BitVec.reduceOr, BitVec.reduceXOr, BitVec.reduceNot, BitVec.reduceNeg, BitVec.reduceHShiftLeft, BitVec.reduceHShiftRight, Nat.reduceAdd, Nat.reduceMul, Nat.reduceSub, Nat.reduceBEq, Nat.reduceEqDiff, Nat.reduceLeDiff, Nat.reduceLT, Int.reduceLE, Int.reduceLT, Int.reduceAdd, Int.reduceSub, Int.reduceMul, Int.reduceNeg, Int.reduceToNat, Int.reduceEq, ↓reduceIte, reduceCtorEq, hb', e0, e1, c0, lK]; repeat (simp (disch := omega) only [w64_d, ipos, ineg, dpos, dneg]; try simp (config := { maxSteps := 10000000 }) only [go_sem, List.reduceReplicate, BitVec.reduceOfInt, BitVec.reduceToNat, BitVec.reduceToInt, BitVec.reduceEq, BitVec.reduceLT, BitVec.reduceLE, BitVec.reduceAdd, BitVec.reduceSub, BitVec.reduceMul, BitVec.reduceUDiv, BitVec.reduceUMod, BitVec.reduceAnd, BitVec.reduceOr, BitVec.reduceXOr, BitVec.reduceNot, BitVec.reduceNeg, BitVec.reduceHShiftLeft, BitVec.reduceHShiftRight, Nat.reduceAdd, Nat.reduceMul, Nat.reduceSub, Nat.reduceBEq, Nat.reduceEqDiff, Nat.reduceLeDiff, Nat.reduceLT, Int.reduceLE, Int.reduceLT, Int.reduceAdd, Int.reduceSub, Int.reduceMul, Int.reduceNeg, Int.reduceToNat, Int.reduceEq, ↓reduceIte, reduceCtorEq, hb', e0, e1, c0, lK]))
            refine ⟨k + 1, by omega, by omega, ?_⟩
            rw [kS, cS]
            exact Wk.wk (by simp [lo]) (by simp [Am.get]) (by simp [AV.bel, Sc.bel]) (subH_refl _) (by simp only [List.all_cons, List.all_nil, AObj.scs, refC_bel, Sc.bel]; rfl)
          · cases hy1 : y.is
            · rw [show killB R x but k = false by rw [kB, hy1]; simp, if_neg (by decide)] at kS cS
              rw [hy1] at c0
              (try simp (config := { maxSteps := 10000000 }) only [go_sem, List.reduceReplicate, BitVec.reduceOfInt, BitVec.reduceToNat, BitVec.reduceToInt, BitVec.reduceEq, BitVec.reduceLT, BitVec.reduceLE, BitVec.reduceAdd, BitVec.reduceSub, BitVec.reduceMul, BitVec.reduceUDiv, BitVec.reduceUMod, BitVec.reduceAnd, BitVec.reduceOr, BitVec.reduceXOr, BitVec.reduceNot, BitVec.reduceNeg, BitVec.reduceHShiftLeft, BitVec.reduceHShiftRight, Nat.reduceAdd, Nat.reduceMul, Nat.reduceSub, Nat.reduceBEq, Nat.reduceEqDiff, Nat.reduceLeDiff, Nat.reduceLT, Int.reduceLE, Int.reduceLT, Int.reduceAdd, Int.reduceSub, Int.reduceMul, Int.reduceNeg, Int.reduceToNat, Int.reduceEq, ↓reduceIte, reduceCtorEq, hb, e0, e1, e4, c0, lK, Int.toNat_natCast]; repeat (simp (disch := omega) only [w64_d, ipos, ineg, dpos, dneg]; try simp (config := { maxSteps := 10000000 }) only [go_sem, List.reduceReplicate, BitVec.reduceOfInt, BitVec.reduceToNat, BitVec.reduceToInt, BitVec.reduceEq, BitVec.reduceLT, BitVec.reduceLE, BitVec.reduceAdd, BitVec.reduceSub, BitVec.reduceMul, BitVec.reduceUDiv, BitVec.reduceUMod, BitVec.reduceAnd, BitVec.reduceOr, BitVec.reduceXOr, BitVec.reduceNot, BitVec.reduceNeg, BitVec.reduceHShiftLeft, BitVec.reduceHShiftRight, Nat.reduceAdd, Nat.reduceMul, Nat.reduceSub, Nat.reduceBEq, Nat.reduceEqDiff, Nat.reduceLeDiff, Nat.reduceLT, Int.reduceLE, Int.reduceLT, Int.reduceAdd, Int.reduceSub, Int.reduceMul, Int.reduceNeg, Int.reduceToNat, Int.reduceEq, ↓reduceIte, reduceCtorEq, hb, e0, e1, e4, c0, lK, Int.toNat_natCast]))
              refine ⟨k + 1, by omega, by omega, ?_⟩
              rw [kS, cS]
              exact Wk.wk (by simp [lo]) (by simp [Am.get]) (by simp [AV.bel, Sc.bel]) (subH_refl _) (by simp only [List.all_cons, List.all_nil, AObj.scs, refC_bel, Sc.bel]; rfl)
            · rw [hy1] at c0
              by_cases hx : y.ln = x
              · have hx' := eq_true hx
                rw [show killB R x but k = true by rw [kB, hy1]; simp [hb, hx], if_pos rfl] at kS cS
                have w1 := refC_set1 (R := killN R x but k) (q := false) kl hlt
                have w2 : wr (((killN R x but k).map (fun x => Sc.b x.is)).set k (.b false) ++ (killN R x but k).map fun x => Sc.u x.ln) (8 + k) [.u 0#64] = refC ((killN R x but k).set k z0) := refC_set2 (q := false) (l := 0#64) kl hlt
                have l2 : (((killN R x but k).map (fun x => Sc.b x.is)).set k (.b false) ++ (killN R x but k).map fun x => Sc.u x.ln).length = 16 := by simp [kl]
                (try simp (config := { maxSteps := 10000000 }) only [go_sem, List.reduceReplicate, BitVec.reduceOfInt, BitVec.reduceToNat, BitVec.reduceToInt, BitVec.reduceEq, BitVec.reduceLT, BitVec.reduceLE, BitVec.reduceAdd, BitVec.reduceSub, BitVec.reduceMul, BitVec.reduceUDiv, BitVec.reduceUMod, BitVec.reduceAnd, BitVec.reduceOr, BitVec.reduceXOr, BitVec.reduceNot, BitVec.reduceNeg, BitVec.reduceHShiftLeft, BitVec.reduceHShiftRight, Nat.reduceAdd, Nat.reduceMul, Nat.reduceSub, Nat.reduceBEq, Nat.reduceEqDiff, Nat.reduceLeDiff, Nat.reduceLT, Int.reduceLE, Int.reduceLT, Int.reduceAdd, Int.reduceSub, Int.reduceMul, Int.reduceNeg, Int.reduceToNat, Int.reduceEq, ↓reduceIte, reduceCtorEq, hb, hx', e0, e1, e2, e4, c0, c1, lK, w1, w2, l2, Int.toNat_natCast]; repeat (simp (disch := omega) only [w64_d, ipos, ineg, dpos, dneg]; try simp (config := { maxSteps := 10000000 }) only [go_sem, List.reduceReplicate, BitVec.reduceOfInt, BitVec.reduceToNat, BitVec.reduceToInt, BitVec.reduceEq, BitVec.reduceLT, BitVec.reduceLE, BitVec.reduceAdd, BitVec.reduceSub, BitVec.reduceMul, BitVec.reduceUDiv, BitVec.reduceUMod, BitVec.reduceAnd, BitVec.reduceOr, BitVec.reduceXOr, BitVec.reduceNot, BitVec.reduceNeg, BitVec.reduceHShiftLeft, BitVec.reduceHShiftRight, Nat.reduceAdd, Nat.reduceMul, Nat.reduceSub, Nat.reduceBEq, Nat.reduceEqDiff, Nat.reduceLeDiff, Nat.reduceLT, Int.reduceLE, Int.reduceLT, Int.reduceAdd, Int.reduceSub, Int.reduceMul, Int.reduceNeg, Int.reduceToNat, Int.reduceEq, ↓reduceIte, reduceCtorEq, hb, hx', e0, e1, e2, e4, c0, c1, lK, w1, w2, l2, Int.toNat_natCast]))
                refine ⟨k + 1, by omega, by omega, ?_⟩
                rw [kS, cS]
                exact Wk.wk (by simp [lo]) (by simp [Am.get]) (by simp [AV.bel, Sc.bel]) (subH_refl _) (by simp only [List.all_cons, List.all_nil, AObj.scs, refC_bel, Sc.bel]; rfl)
              · rw [show killB R x but k = false by rw [kB]; simp [hx], if_neg (by decide)] at kS cS
                (try simp (config := { maxSteps := 10000000 }) only [go_sem, List.reduceReplicate, BitVec.reduceOfInt, BitVec.reduceToNat, BitVec.reduceToInt, BitVec.reduceEq, BitVec.reduceLT, BitVec.reduceLE, BitVec.reduceAdd, BitVec.reduceSub, BitVec.reduceMul, BitVec.reduceUDiv, BitVec.reduceUMod, BitVec.reduceAnd, BitVec.reduceOr, BitVec.reduceXOr, BitVec.reduceNot, BitVec.reduceNeg, BitVec.reduceHShiftLeft, BitVec.reduceHShiftRight, Nat.reduceAdd, Nat.reduceMul, Nat.reduceSub, Nat.reduceBEq, Nat.reduceEqDiff, Nat.reduceLeDiff, Nat.reduceLT, Int.reduceLE, Int.reduceLT, Int.reduceAdd, Int.reduceSub, Int.reduceMul, Int.reduceNeg, Int.reduceToNat, Int.reduceEq, ↓reduceIte, reduceCtorEq, hb, hx, e0, e1, e4, c0, c1, lK, Int.toNat_natCast]; repeat (simp (disch := omega) only [w64_d, ipos, ineg, dpos, dneg]; try simp (config := { maxSteps := 10000000 }) only [go_sem, List.reduceReplicate, BitVec.reduceOfInt, BitVec.reduceToNat, BitVec.reduceToInt, BitVec.reduceEq, BitVec.reduceLT, BitVec.reduceLE, BitVec.reduceAdd, BitVec.reduceSub, BitVec.reduceMul, BitVec.reduceUDiv, BitVec.reduceUMod, BitVec.reduceAnd, BitVec.reduceOr, BitVec.reduceXOr, BitVec.reduceNot, BitVec.reduceNeg, BitVec.reduceHShiftLeft, BitVec.reduceHShiftRight, Nat.reduceAdd, Nat.reduceMul, Nat.reduceSub, Nat.reduceBEq, Nat.reduceEqDiff, Nat.reduceLeDiff, Nat.reduceLT, Int.reduceLE, Int.reduceLT, Int.reduceAdd, Int.reduceSub, Int.reduceMul, Int.reduceNeg, Int.reduceToNat, Int.reduceEq, ↓reduceIte, reduceCtorEq, hb, hx, e0, e1, e4, c0, c1, lK, Int.toNat_natCast]))
                refine ⟨k + 1, by omega, by omega, ?_⟩
                rw [kS, cS]
                exact Wk.wk (by simp [lo]) (by simp [Am.get]) (by simp [AV.bel, Sc.bel]) (subH_refl _) (by simp only [List.all_cons, List.all_nil, AObj.scs, refC_bel, Sc.bel]; rfl)
        · obtain rfl : k = 8 := by omega
          have dz : (refC Z8).drop 16 = [] := by rw [Z8_c]; rfl
          (try simp (config := { maxSteps := 10000000 }) only [go_sem, List.reduceReplicate, BitVec.reduceOfInt, BitVec.reduceToNat, BitVec.reduceToInt, BitVec.reduceEq, BitVec.reduceLT, BitVec.reduceLE, BitVec.reduceAdd, BitVec.reduceSub, BitVec.reduceMul, BitVec.reduceUDiv, BitVec.reduceUMod, BitVec.reduceAnd, BitVec.reduceOr, BitVec.reduceXOr, BitVec.reduceNot, BitVec.reduceNeg, BitVec.reduceHShiftLeft, BitVec.reduceHShiftRight, Nat.reduceAdd, Nat.reduceMul, Nat.reduceSub, Nat.reduceBEq, Nat.reduceEqDiff, Nat.reduceLeDiff, Nat.reduceLT, Int.reduceLE, Int.reduceLT, Int.reduceAdd, Int.reduceSub, Int.reduceMul, Int.reduceNeg, Int.reduceToNat, Int.reduceEq, ↓reduceIte, reduceCtorEq, lK, tkK, oK, lZ, dz]; repeat (simp (disch := omega) only [w64_d, ipos, ineg, dpos, dneg]; try simp (config := { maxSteps := 10000000 }) only [go_sem, List.reduceReplicate, BitVec.reduceOfInt, BitVec.reduceToNat, BitVec.reduceToInt, BitVec.reduceEq, BitVec.reduceLT, BitVec.reduceLE, BitVec.reduceAdd, BitVec.reduceSub, BitVec.reduceMul, BitVec.reduceUDiv, BitVec.reduceUMod, BitVec.reduceAnd, BitVec.reduceOr, BitVec.reduceXOr, BitVec.reduceNot, BitVec.reduceNeg, BitVec.reduceHShiftLeft, BitVec.reduceHShiftRight, Nat.reduceAdd, Nat.reduceMul, Nat.reduceSub, Nat.reduceBEq, Nat.reduceEqDiff, Nat.reduceLeDiff, Nat.reduceLT, Int.reduceLE, Int.reduceLT, Int.reduceAdd, Int.reduceSub, Int.reduceMul, Int.reduceNeg, Int.reduceToNat, Int.reduceEq, ↓reduceIte, reduceCtorEq, lK, tkK, oK, lZ, dz]))
    · simp at h
  · simp at h
def s_vrwho (args : List AV) (H : AH) : Option (AV × AH) :=
  match args with
  | [.g l, .c (.u x)] => if isRf l then some (.c (.sl H.length 0 (whoN (rfT l) x 8).length (whoN (rfT l) x 8).length), H ++ [.vec 1 ((whoN (rfT l) x 8).map gI)]) else none
  | _ => none
theorem s_vrwho_eq {H : AH} {x : BitVec 64} {R : List Sl} (hR : R.length = 8) : s_vrwho [.g (refC R), .c (.u x)] H = some (.c (.sl H.length 0 (whoN R x 8).length (whoN R x 8).length), H ++ [.vec 1 ((whoN R x 8).map gI)]) := by
  simp only [s_vrwho, isRf_of hR, rfT_of hR, if_true]
theorem len_vrwho (args : List AV) (H : AH) (v : AV) (H1 : AH) (h : s_vrwho args H = some (v, H1)) : H.length ≤ H1.length := by
  unfold s_vrwho at h
  repeat' split at h
  all_goals simp at h
  rw [← h.2]; simp
set_option maxRecDepth 100000 in
set_option maxHeartbeats 2000000 in
theorem ok_vrwho : FpOk Try.prog 22 s_vrwho := by
  refine fp_ok (s := s_vrwho) (tab := []) hmix TabOk.nil Try.func22 rfl Try.results22 Try.ntmps22 (by kernel_rfl) (by kernel_rfl) len_vrwho ?_
  intro args H v H1 h hargs hH
  unfold s_vrwho at h
  split at h
  · rename_i l x
    split at h
    · rename_i hc
      simp only [Option.some.injEq, Prod.mk.injEq] at h
      obtain ⟨rfl, rfl⟩ := h
      obtain ⟨R, hR, rfl⟩ := hc
      rw [rfT_of hR]
      refine ⟨by simp only [List.length_cons, List.length_nil]; decide, ?_⟩
      have lR := refC_l hR
      have bb : ∀ L : List Int, belH (H ++ [.own (refC R), .vec 1 (L.map gI)]) = true := fun L => belH_app hH (by simp only [List.mem_cons, List.not_mem_nil, or_false, forall_eq_or_imp, forall_eq]; exact ⟨refC_bel, map_bel gI_num _ _⟩)
      (try simp (config := { maxSteps := 10000000 }) only [go_sem, List.reduceReplicate, BitVec.reduceOfInt, BitVec.reduceToNat, BitVec.reduceToInt, BitVec.reduceEq, BitVec.reduceLT, BitVec.reduceLE, BitVec.reduceAdd, BitVec.reduceSub, BitVec.reduceMul, BitVec.reduceUDiv, BitVec.reduceUMod, BitVec.reduceAnd, BitVec.reduceOr, BitVec.reduceXOr, BitVec.reduceNot, BitVec.reduceNeg, BitVec.reduceHShiftLeft, BitVec.reduceHShiftRight, Nat.reduceAdd, Nat.reduceMul, Nat.reduceSub, Nat.reduceBEq, Nat.reduceEqDiff, Nat.reduceLeDiff, Nat.reduceLT, Int.reduceLE, Int.reduceLT, Int.reduceAdd, Int.reduceSub, Int.reduceMul, Int.reduceNeg, Int.reduceToNat, Int.reduceEq, ↓reduceIte, reduceCtorEq]; repeat (simp (disch := omega) only [w64_d, ipos, ineg, dpos, dneg]; try simp (config := { maxSteps := 10000000 }) only [go_sem, List.reduceReplicate, BitVec.reduceOfInt, BitVec.reduceToNat, BitVec.reduceToInt, BitVec.reduceEq, BitVec.reduceLT, BitVec.reduceLE, BitVec.reduceAdd, BitVec.reduceSub, BitVec.reduceMul, BitVec.reduceUDiv, BitVec.reduceUMod, BitVec.reduceAnd, BitVec.reduceOr, BitVec.reduceXOr, BitVec.reduceNot, BitVec.reduceNeg, BitVec.reduceHShiftLeft, BitVec.reduceHShiftRight, Nat.reduceAdd, Nat.reduceMul, Nat.reduceSub, Nat.reduceBEq, Nat.reduceEqDiff, Nat.reduceLeDiff, Nat.reduceLT, Int.reduceLE, Int.reduceLT, Int.reduceAdd, Int.reduceSub, Int.reduceMul, Int.reduceNeg, Int.reduceToNat, Int.reduceEq, ↓reduceIte, reduceCtorEq]))
      refine arun_for 8 (fun k => ([(1, .c (.u x)), (2, .c (.p H.length 0 0)), (5, .c (.sl (H.length + 1) 0 (whoN R x k).length (whoN R x k).length)), (6, .c (.i k))], H ++ [.own (refC R), .vec 1 ((whoN R x k).map gI)])) ?_ fun k hk => ?_
      · exact Wk.trans (Wk.nil 5 1 (by decide) rfl (by simp [lo])) (Wk.wk (by simp [lo]) (by simp [Am.get, whoN]) (by simp [AV.bel, Sc.bel]) (by rw [List.append_assoc]; exact subH_refl _) (bb _))
      · have wl := @whoN_len R x k
        by_cases hlt : k < 8
        · have e0 : (k : Int) < 8 := by omega
          have e4 : (0 : Int) ≤ k := by omega
          have e1 : w64 ((k : Int) + 1) = ((k + 1 : Nat) : Int) := by rw [w64_d (by omega) (by omega)]; omega
          have k5 : ((whoN R x k).length + 1) * 8 ≤ 1099511627776 := by omega
          obtain ⟨y, hy⟩ := sl_some hR hlt
          obtain ⟨c0, c1⟩ := refC_cell hR hy
          have sk : whoN R x (k + 1) = if hasT R k x = true then whoN R x k ++ [(k : Int)] else whoN R x k := rfl
          have kB : hasT R k x = (y.is && decide (y.ln = x)) := by unfold hasT; rw [at8_k hlt hy, in8_k hlt]; rfl
          cases hy1 : y.is
          · rw [show hasT R k x = false by rw [kB, hy1]; rfl, if_neg (by decide)] at sk
            rw [hy1] at c0
            (try simp (config := { maxSteps := 10000000 }) only [go_sem, List.reduceReplicate, BitVec.reduceOfInt, BitVec.reduceToNat, BitVec.reduceToInt, BitVec.reduceEq, BitVec.reduceLT, BitVec.reduceLE, BitVec.reduceAdd, BitVec.reduceSub, BitVec.reduceMul, BitVec.reduceUDiv, BitVec.reduceUMod, BitVec.reduceAnd, BitVec.reduceOr, BitVec.reduceXOr, BitVec.reduceNot, BitVec.reduceNeg, BitVec.reduceHShiftLeft, BitVec.reduceHShiftRight, Nat.reduceAdd, Nat.reduceMul, Nat.reduceSub, Nat.reduceBEq, Nat.reduceEqDiff, Nat.reduceLeDiff, Nat.reduceLT, Int.reduceLE, Int.reduceLT, Int.reduceAdd, Int.reduceSub, Int.reduceMul, Int.reduceNeg, Int.reduceToNat, Int.reduceEq, ↓reduceIte, reduceCtorEq, e0, e1, e4, c0, lR, Int.toNat_natCast]; repeat (simp (disch := omega) only [w64_d, ipos, ineg, dpos, dneg]; try simp (config := { maxSteps := 10000000 }) only [go_sem, List.reduceReplicate, BitVec.reduceOfInt, BitVec.reduceToNat, BitVec.reduceToInt, BitVec.reduceEq, BitVec.reduceLT, BitVec.reduceLE, BitVec.reduceAdd, BitVec.reduceSub, BitVec.reduceMul, BitVec.reduceUDiv, BitVec.reduceUMod, BitVec.reduceAnd, BitVec.reduceOr, BitVec.reduceXOr, BitVec.reduceNot, BitVec.reduceNeg, BitVec.reduceHShiftLeft, BitVec.reduceHShiftRight, Nat.reduceAdd, Nat.reduceMul, Nat.reduceSub, Nat.reduceBEq, Nat.reduceEqDiff, Nat.reduceLeDiff, Nat.reduceLT, Int.reduceLE, Int.reduceLT, Int.reduceAdd, Int.reduceSub, Int.reduceMul, Int.reduceNeg, Int.reduceToNat, Int.reduceEq, ↓reduceIte, reduceCtorEq, e0, e1, e4, c0, lR, Int.toNat_natCast]))
            refine ⟨k + 1, by omega, by omega, ?_⟩
            rw [sk]
            exact Wk.wk (by simp [lo]) (by simp [Am.get]) (by simp [AV.bel, Sc.bel]) (subH_refl _) (bb _)
          · rw [hy1] at c0
            by_cases hx : y.ln = x
            · have hx' := eq_true hx
              rw [show hasT R k x = true by rw [kB, hy1]; simp [hx], if_pos rfl] at sk
              (try simp (config := { maxSteps := 10000000 }) only [go_sem, List.reduceReplicate, BitVec.reduceOfInt, BitVec.reduceToNat, BitVec.reduceToInt, BitVec.reduceEq, BitVec.reduceLT, BitVec.reduceLE, BitVec.reduceAdd, BitVec.reduceSub, BitVec.reduceMul, BitVec.reduceUDiv, BitVec.reduceUMod, BitVec.reduceAnd, BitVec.reduceOr, BitVec.reduceXOr, BitVec.reduceNot, BitVec.reduceNeg, BitVec.reduceHShiftLeft, BitVec.reduceHShiftRight, Nat.reduceAdd, Nat.reduceMul, Nat.reduceSub, Nat.reduceBEq, Nat.reduceEqDiff, Nat.reduceLeDiff, Nat.reduceLT, Int.reduceLE, Int.reduceLT, Int.reduceAdd, Int.reduceSub, Int.reduceMul, Int.reduceNeg, Int.reduceToNat, Int.reduceEq, ↓reduceIte, reduceCtorEq, hx', e0, e1, e4, c0, c1, lR, k5, List.length_map, Int.toNat_natCast]; repeat (simp (disch := omega) only [w64_d, ipos, ineg, dpos, dneg]; try simp (config := { maxSteps := 10000000 }) only [go_sem, List.reduceReplicate, BitVec.reduceOfInt, BitVec.reduceToNat, BitVec.reduceToInt, BitVec.reduceEq, BitVec.reduceLT, BitVec.reduceLE, BitVec.reduceAdd, BitVec.reduceSub, BitVec.reduceMul, BitVec.reduceUDiv, BitVec.reduceUMod, BitVec.reduceAnd, BitVec.reduceOr, BitVec.reduceXOr, BitVec.reduceNot, BitVec.reduceNeg, BitVec.reduceHShiftLeft, BitVec.reduceHShiftRight, Nat.reduceAdd, Nat.reduceMul, Nat.reduceSub, Nat.reduceBEq, Nat.reduceEqDiff, Nat.reduceLeDiff, Nat.reduceLT, Int.reduceLE, Int.reduceLT, Int.reduceAdd, Int.reduceSub, Int.reduceMul, Int.reduceNeg, Int.reduceToNat, Int.reduceEq, ↓reduceIte, reduceCtorEq, hx', e0, e1, e4, c0, c1, lR, k5, List.length_map, Int.toNat_natCast]))
              refine ⟨k + 1, by omega, by omega, ?_⟩
              rw [sk]
              exact Wk.wk (by simp [lo]) (by simp [Am.get]) (by simp [AV.bel, Sc.bel]) (subH_pre _ ⟨.inr rfl, .inr (by simp [gI]), trivial⟩) (bb _)
            · rw [show hasT R k x = false by rw [kB]; simp [hx], if_neg (by decide)] at sk
              (try simp (config := { maxSteps := 10000000 }) only [go_sem, List.reduceReplicate, BitVec.reduceOfInt, BitVec.reduceToNat, BitVec.reduceToInt, BitVec.reduceEq, BitVec.reduceLT, BitVec.reduceLE, BitVec.reduceAdd, BitVec.reduceSub, BitVec.reduceMul, BitVec.reduceUDiv, BitVec.reduceUMod, BitVec.reduceAnd, BitVec.reduceOr, BitVec.reduceXOr, BitVec.reduceNot, BitVec.reduceNeg, BitVec.reduceHShiftLeft, BitVec.reduceHShiftRight, Nat.reduceAdd, Nat.reduceMul, Nat.reduceSub, Nat.reduceBEq, Nat.reduceEqDiff, Nat.reduceLeDiff, Nat.reduceLT, Int.reduceLE, Int.reduceLT, Int.reduceAdd, Int.reduceSub, Int.reduceMul, Int.reduceNeg, Int.reduceToNat, Int.reduceEq, ↓reduceIte, reduceCtorEq, hx, e0, e1, e4, c0, c1, lR, Int.toNat_natCast]; repeat (simp (disch := omega) only [w64_d, ipos, ineg, dpos, dneg]; try simp (config := { maxSteps := 10000000 }) only [go_sem, List.reduceReplicate, BitVec.reduceOfInt, BitVec.reduceToNat, BitVec.reduceToInt, BitVec.reduceEq, BitVec.reduceLT, BitVec.reduceLE, BitVec.reduceAdd, BitVec.reduceSub, BitVec.reduceMul, BitVec.reduceUDiv, BitVec.reduceUMod, BitVec.reduceAnd, BitVec.reduceOr, BitVec.reduceXOr, BitVec.reduceNot, BitVec.reduceNeg, BitVec.reduceHShiftLeft, BitVec.reduceHShiftRight, Nat.reduceAdd, Nat.reduceMul, Nat.reduceSub, Nat.reduceBEq, Nat.reduceEqDiff, Nat.reduceLeDiff, Nat.reduceLT, Int.reduceLE, Int.reduceLT, Int.reduceAdd, Int.reduceSub, Int.reduceMul, Int.reduceNeg, Int.reduceToNat, Int.reduceEq, ↓reduceIte, reduceCtorEq, hx, e0, e1, e4, c0, c1, lR, Int.toNat_natCast]))
              refine ⟨k + 1, by omega, by omega, ?_⟩
              rw [sk]
              exact Wk.wk (by simp [lo]) (by simp [Am.get]) (by simp [AV.bel, Sc.bel]) (subH_refl _) (bb _)
        · obtain rfl : k = 8 := by omega
          (try simp (config := { maxSteps := 10000000 }) only [go_sem, List.reduceReplicate, BitVec.reduceOfInt, BitVec.reduceToNat, BitVec.reduceToInt, BitVec.reduceEq, BitVec.reduceLT, BitVec.reduceLE, BitVec.reduceAdd, BitVec.reduceSub, BitVec.reduceMul, BitVec.reduceUDiv, BitVec.reduceUMod, BitVec.reduceAnd, BitVec.reduceOr, BitVec.reduceXOr, BitVec.reduceNot, BitVec.reduceNeg, BitVec.reduceHShiftLeft, BitVec.reduceHShiftRight, Nat.reduceAdd, Nat.reduceMul, Nat.reduceSub, Nat.reduceBEq, Nat.reduceEqDiff, Nat.reduceLeDiff, Nat.reduceLT, Int.reduceLE, Int.reduceLT, Int.reduceAdd, Int.reduceSub, Int.reduceMul, Int.reduceNeg, Int.reduceToNat, Int.reduceEq, ↓reduceIte, reduceCtorEq]; repeat (simp (disch := omega) only [w64_d, ipos, ineg, dpos, dneg]; try simp (config := { maxSteps := 10000000 }) only [go_sem, List.reduceReplicate, BitVec.reduceOfInt, BitVec.reduceToNat, BitVec.reduceToInt, BitVec.reduceEq, BitVec.reduceLT, BitVec.reduceLE, BitVec.reduceAdd, BitVec.reduceSub, BitVec.reduceMul, BitVec.reduceUDiv, BitVec.reduceUMod, BitVec.reduceAnd, BitVec.reduceOr, BitVec.reduceXOr, BitVec.reduceNot, BitVec.reduceNeg, BitVec.reduceHShiftLeft, BitVec.reduceHShiftRight, Nat.reduceAdd, Nat.reduceMul, Nat.reduceSub, Nat.reduceBEq, Nat.reduceEqDiff, Nat.reduceLeDiff, Nat.reduceLT, Int.reduceLE, Int.reduceLT, Int.reduceAdd, Int.reduceSub, Int.reduceMul, Int.reduceNeg, Int.reduceToNat, Int.reduceEq, ↓reduceIte, reduceCtorEq]))
          exact fin_tail1 1 (Nat.le_refl _) hH rfl (map_bel gI_num _ _) ren_sl0.symm (by simp [AV.bel, Sc.bel])
    · simp at h
  · simp at h
/-! ### a deed to both -/
structure Rd where
  k : Int
  h : Int
  l : BitVec 64
def encRd (d : Rd) : List Sc := [.i d.k, .i d.h, .u d.l]
def dcRd : List Sc → Option Rd
  | [.i k, .i h, .u l] => some ⟨k, h, l⟩
  | _ => none
theorem dcRd_e (d : Rd) : dcRd (encRd d) = some d := rfl
theorem dcRd_d (cs : List Sc) (d : Rd) (h : dcRd cs = some d) : cs = encRd d := by
  unfold dcRd at h
  split at h
  · simp only [Option.some.injEq] at h; subst h; rfl
  · simp at h
theorem encRd_l (d : Rd) : (encRd d).length = 3 := rfl
def doR (R : List Sl) (d : Rd) : List Sl := if d.k = 0 then setT R d.h ⟨true, d.l⟩ else if d.k = 1 then setT R d.h z0 else killN R d.l d.h 8
theorem doR_l {R : List Sl} {d : Rd} (h : R.length = 8) : (doR R d).length = 8 := by
  unfold doR; split
  · rw [setT_l, h]
  · split
    · rw [setT_l, h]
    · rw [killN_len, h]
instance decScs (a b : List Sc) : Decidable (a = b) := Classical.propDecidable _
def s_vdo (args : List AV) (H : AH) : Option (AV × AH) :=
  match args with
  | [.c x, .g l, .g d] =>
    match tabP H x, dcRd d with
    | some (some R), some e => if l = refC R then some (.t [.g (refC (doR R e)), .c (.b true)], setP H x (doR R e)) else none
    | _, _ => none
  | _ => none
theorem s_vdo_eq {H : AH} {x : Sc} {R : List Sl} {d : Rd} (hR : tabP H x = some (some R)) : s_vdo [.c x, .g (refC R), .g (encRd d)] H = some (.t [.g (refC (doR R d)), .c (.b true)], setP H x (doR R d)) := by
  simp only [s_vdo, hR, dcRd_e, if_true]
theorem len_vdo (args : List AV) (H : AH) (v : AV) (H1 : AH) (h : s_vdo args H = some (v, H1)) : H.length ≤ H1.length := by
  unfold s_vdo at h
  repeat' split at h
  all_goals simp at h
  rw [← h.2, setP_len]; exact Nat.le_refl _
set_option maxHeartbeats 4000000 in
set_option maxRecDepth 100000 in
set_option maxHeartbeats 2000000 in
theorem ok_vdo : FpOk Try.prog 6 s_vdo := by
  refine fp_ok (s := s_vdo) (tab := [(9, .fp s_vset), (10, .fp s_vclear), (7, .fp s_vkill), (15, .pu s_vrset), (16, .pu s_vrclear), (17, .pu s_vrkill)]) hmix (TabOk.cons (e := .fp s_vset) ok_vset (TabOk.cons (e := .fp s_vclear) ok_vclear (TabOk.cons (e := .fp s_vkill) ok_vkill (TabOk.cons (e := .pu s_vrset) ok_vrset (TabOk.cons (e := .pu s_vrclear) ok_vrclear (TabOk.cons (e := .pu s_vrkill) ok_vrkill TabOk.nil)))))) Try.func6 rfl Try.results6 Try.ntmps6 (by kernel_rfl) (by kernel_rfl) len_vdo ?_
  intro args H v H1 h hargs hH
  unfold s_vdo at h
  split at h
  · rename_i x l d
    split at h
    · rename_i R e hR he
      split at h
      · rename_i hl
        subst hl
        have hd := dcRd_d _ _ he
        subst hd
        simp only [Option.some.injEq, Prod.mk.injEq] at h
        obtain ⟨rfl, rfl⟩ := h
        refine ⟨by simp only [List.length_cons, List.length_nil]; decide, ?_⟩
        rcases tabP_inv hR with ⟨rfl, hq⟩ | ⟨id, R', rfl, hq, hl8, ho⟩
        · simp at hq
        · simp only [Option.some.injEq] at hq; subst hq
          have lid : id < H.length := hg_lt (by rw [ho]; rfl)
          have hf := isRf_of hl8
          have lR := refC_l hl8
          have tk : (refC R).take 16 = refC R := by rw [← lR, List.take_length]
          have rf := rfT_of hl8
          have hp : ∀ X, tabP (H ++ X) (.p id 0 0) = some (some R) := fun X => tabP_of ((hg_lt' lid).trans ho) hl8
          have sp : ∀ X S, setP (H ++ X) (.p id 0 0) S = setP H (.p id 0 0) S ++ X := fun X S => List.set_append_left _ _ lid
          have p1 := fun X h l => s_vset_eq (h := h) (l := l) (hp X)
          have p2 := fun X h => s_vclear_eq (h := h) (hp X)
          have p3 := fun X l b => s_vkill_eq (l := l) (but := b) (hp X)
          simp only [sp] at p1 p2 p3
          have lD := refC_l (doR_l (d := e) hl8)
          have tD : (refC (doR R e)).take 16 = refC (doR R e) := by rw [← lD, List.take_length]
          have oD := @refC_one (doR R e)
          have lO : ∀ S, (setP H (.p id 0 0) S).length = H.length := fun S => setP_len
          have gs : ∀ S X n, hg (setP H (.p id 0 0) S ++ X) (H.length + n) = hg X n := fun S X n => by rw [← lO S]; exact hg_len_add
          have ss : ∀ S X n o, (setP H (.p id 0 0) S ++ X).set (H.length + n) o = setP H (.p id 0 0) S ++ X.set n o := fun S X n o => by rw [← lO S]; exact set_len_add
          have bS : ∀ S, belH (setP H (.p id 0 0) S) = true := fun S => setP_bel hH
          obtain ⟨kk, hh, ll⟩ := e
          by_cases h0 : kk = 0
          · subst h0
            have eD : doR R ⟨0, hh, ll⟩ = setT R hh ⟨true, ll⟩ := rfl
            rw [eD] at lD tD oD ⊢
            (try simp (config := { maxSteps := 10000000 }) only [go_sem, List.reduceReplicate, BitVec.reduceOfInt, BitVec.reduceToNat, BitVec.reduceToInt, BitVec.reduceEq, BitVec.reduceLT, BitVec.reduceLE, BitVec.reduceAdd, BitVec.reduceSub, BitVec.reduceMul, BitVec.reduceUDiv, BitVec.reduceUMod, BitVec.reduceAnd, BitVec.reduceOr, BitVec.reduceXOr, BitVec.reduceNot, BitVec.reduceNeg, BitVec.reduceHShiftLeft, BitVec.reduceHShiftRight, Nat.reduceAdd, Nat.reduceMul, Nat.reduceSub, Nat.reduceBEq, Nat.reduceEqDiff, Nat.reduceLeDiff, Nat.reduceLT, Int.reduceLE, Int.reduceLT, Int.reduceAdd, Int.reduceSub, Int.reduceMul, Int.reduceNeg, Int.reduceToNat, Int.reduceEq, ↓reduceIte, reduceCtorEq, s_vset_eq, s_vclear_eq, s_vkill_eq, s_vrset_eq, s_vrclear_eq, s_vrkill_eq, encRd, hf, rf, lR, tk, lD, tD, oD, gs, ss, p1]; repeat (simp (disch := omega) only [w64_d, ipos, ineg, dpos, dneg]; try simp (config := { maxSteps := 10000000 }) only [go_sem, List.reduceReplicate, BitVec.reduceOfInt, BitVec.reduceToNat, BitVec.reduceToInt, BitVec.reduceEq, BitVec.reduceLT, BitVec.reduceLE, BitVec.reduceAdd, BitVec.reduceSub, BitVec.reduceMul, BitVec.reduceUDiv, BitVec.reduceUMod, BitVec.reduceAnd, BitVec.reduceOr, BitVec.reduceXOr, BitVec.reduceNot, BitVec.reduceNeg, BitVec.reduceHShiftLeft, BitVec.reduceHShiftRight, Nat.reduceAdd, Nat.reduceMul, Nat.reduceSub, Nat.reduceBEq, Nat.reduceEqDiff, Nat.reduceLeDiff, Nat.reduceLT, Int.reduceLE, Int.reduceLT, Int.reduceAdd, Int.reduceSub, Int.reduceMul, Int.reduceNeg, Int.reduceToNat, Int.reduceEq, ↓reduceIte, reduceCtorEq, s_vset_eq, s_vclear_eq, s_vkill_eq, s_vrset_eq, s_vrclear_eq, s_vrkill_eq, encRd, hf, rf, lR, tk, lD, tD, oD, gs, ss, p1]))
            refine ⟨by repeat' first | apply And.intro | (intro _; kernel_rfl) | kernel_rfl, ?_⟩
            (try simp (config := { maxSteps := 10000000 }) only [go_sem, List.reduceReplicate, BitVec.reduceOfInt, BitVec.reduceToNat, BitVec.reduceToInt, BitVec.reduceEq, BitVec.reduceLT, BitVec.reduceLE, BitVec.reduceAdd, BitVec.reduceSub, BitVec.reduceMul, BitVec.reduceUDiv, BitVec.reduceUMod, BitVec.reduceAnd, BitVec.reduceOr, BitVec.reduceXOr, BitVec.reduceNot, BitVec.reduceNeg, BitVec.reduceHShiftLeft, BitVec.reduceHShiftRight, Nat.reduceAdd, Nat.reduceMul, Nat.reduceSub, Nat.reduceBEq, Nat.reduceEqDiff, Nat.reduceLeDiff, Nat.reduceLT, Int.reduceLE, Int.reduceLT, Int.reduceAdd, Int.reduceSub, Int.reduceMul, Int.reduceNeg, Int.reduceToNat, Int.reduceEq, ↓reduceIte, reduceCtorEq, s_vset_eq, s_vclear_eq, s_vkill_eq, s_vrset_eq, s_vrclear_eq, s_vrkill_eq, encRd, hf, rf, lR, tk, lD, tD, oD, gs, ss]; repeat (simp (disch := omega) only [w64_d, ipos, ineg, dpos, dneg]; try simp (config := { maxSteps := 10000000 }) only [go_sem, List.reduceReplicate, BitVec.reduceOfInt, BitVec.reduceToNat, BitVec.reduceToInt, BitVec.reduceEq, BitVec.reduceLT, BitVec.reduceLE, BitVec.reduceAdd, BitVec.reduceSub, BitVec.reduceMul, BitVec.reduceUDiv, BitVec.reduceUMod, BitVec.reduceAnd, BitVec.reduceOr, BitVec.reduceXOr, BitVec.reduceNot, BitVec.reduceNeg, BitVec.reduceHShiftLeft, BitVec.reduceHShiftRight, Nat.reduceAdd, Nat.reduceMul, Nat.reduceSub, Nat.reduceBEq, Nat.reduceEqDiff, Nat.reduceLeDiff, Nat.reduceLT, Int.reduceLE, Int.reduceLT, Int.reduceAdd, Int.reduceSub, Int.reduceMul, Int.reduceNeg, Int.reduceToNat, Int.reduceEq, ↓reduceIte, reduceCtorEq, s_vset_eq, s_vclear_eq, s_vkill_eq, s_vrset_eq, s_vrclear_eq, s_vrkill_eq, encRd, hf, rf, lR, tk, lD, tD, oD, gs, ss]))
            exact fin_fp (by simp only [AV.bel, List.all_cons, List.all_nil, refC_bel, Sc.bel]; rfl) (subH_app _ _) (bS _) (by rw [lO]; exact Nat.le_refl _)
          · by_cases h1 : kk = 1
            · subst h1
              have eD : doR R ⟨1, hh, ll⟩ = setT R hh z0 := rfl
              rw [eD] at lD tD oD ⊢
              (try simp (config := { maxSteps := 10000000 }) only [go_sem, List.reduceReplicate, BitVec.reduceOfInt, BitVec.reduceToNat, BitVec.reduceToInt, BitVec.reduceEq, BitVec.reduceLT, BitVec.reduceLE, BitVec.reduceAdd, BitVec.reduceSub, BitVec.reduceMul, BitVec.reduceUDiv, BitVec.reduceUMod, BitVec.reduceAnd, BitVec.reduceOr, BitVec.reduceXOr, BitVec.reduceNot, BitVec.reduceNeg, BitVec.reduceHShiftLeft, BitVec.reduceHShiftRight, Nat.reduceAdd, Nat.reduceMul, Nat.reduceSub, Nat.reduceBEq, Nat.reduceEqDiff, Nat.reduceLeDiff, Nat.reduceLT, Int.reduceLE, Int.reduceLT, Int.reduceAdd, Int.reduceSub, Int.reduceMul, Int.reduceNeg, Int.reduceToNat, Int.reduceEq, ↓reduceIte, reduceCtorEq, s_vset_eq, s_vclear_eq, s_vkill_eq, s_vrset_eq, s_vrclear_eq, s_vrkill_eq, encRd, hf, rf, lR, tk, lD, tD, oD, gs, ss, p2]; repeat (simp (disch := omega) only [w64_d, ipos, ineg, dpos, dneg]; try simp (config := { maxSteps := 10000000 }) only [go_sem, List.reduceReplicate, BitVec.reduceOfInt, BitVec.reduceToNat, BitVec.reduceToInt, BitVec.reduceEq, BitVec.reduceLT, BitVec.reduceLE, BitVec.reduceAdd, BitVec.reduceSub, BitVec.reduceMul, BitVec.reduceUDiv, BitVec.reduceUMod, BitVec.reduceAnd, BitVec.reduceOr, BitVec.reduceXOr, BitVec.reduceNot, BitVec.reduceNeg, BitVec.reduceHShiftLeft, BitVec.reduceHShiftRight, Nat.reduceAdd, Nat.reduceMul, Nat.reduceSub, Nat.reduceBEq, Nat.reduceEqDiff, Nat.reduceLeDiff, Nat.reduceLT, Int.reduceLE, Int.reduceLT, Int.reduceAdd, Int.reduceSub, Int.reduceMul, Int.reduceNeg, Int.reduceToNat, Int.reduceEq, ↓reduceIte, reduceCtorEq, s_vset_eq, s_vclear_eq, s_vkill_eq, s_vrset_eq, s_vrclear_eq, s_vrkill_eq, encRd, hf, rf, lR, tk, lD, tD, oD, gs, ss, p2]))
              refine ⟨by repeat' first | apply And.intro | (intro _; kernel_rfl) | kernel_rfl, ?_⟩
              (try simp (config := { maxSteps := 10000000 }) only [go_sem, List.reduceReplicate, BitVec.reduceOfInt, BitVec.reduceToNat, BitVec.reduceToInt, BitVec.reduceEq, BitVec.reduceLT, BitVec.reduceLE, BitVec.reduceAdd, BitVec.reduceSub, BitVec.reduceMul, BitVec.reduceUDiv, BitVec.reduceUMod, BitVec.reduceAnd, BitVec.reduceOr, BitVec.reduceXOr, BitVec.reduceNot, BitVec.reduceNeg, BitVec.reduceHShiftLeft, BitVec.reduceHShiftRight, Nat.reduceAdd, Nat.reduceMul, Nat.reduceSub, Nat.reduceBEq, Nat.reduceEqDiff, Nat.reduceLeDiff, Nat.reduceLT, Int.reduceLE, Int.reduceLT, Int.reduceAdd, Int.reduceSub, Int.reduceMul, Int.reduceNeg, Int.reduceToNat, Int.reduceEq, ↓reduceIte, reduceCtorEq, s_vset_eq, s_vclear_eq, s_vkill_eq, s_vrset_eq, s_vrclear_eq, s_vrkill_eq, encRd, hf, rf, lR, tk, lD, tD, oD, gs, ss]; repeat (simp (disch := omega) only [w64_d, ipos, ineg, dpos, dneg]; try simp (config := { maxSteps := 10000000 }) only [go_sem, List.reduceReplicate, BitVec.reduceOfInt, BitVec.reduceToNat, BitVec.reduceToInt, BitVec.reduceEq, BitVec.reduceLT, BitVec.reduceLE, BitVec.reduceAdd, BitVec.reduceSub, BitVec.reduceMul, BitVec.reduceUDiv, BitVec.reduceUMod, BitVec.reduceAnd, BitVec.reduceOr, BitVec.reduceXOr, BitVec.reduceNot, BitVec.reduceNeg, BitVec.reduceHShiftLeft, BitVec.reduceHShiftRight, Nat.reduceAdd, Nat.reduceMul, Nat.reduceSub, Nat.reduceBEq, Nat.reduceEqDiff, Nat.reduceLeDiff, Nat.reduceLT, Int.reduceLE, Int.reduceLT, Int.reduceAdd, Int.reduceSub, Int.reduceMul, Int.reduceNeg, Int.reduceToNat, Int.reduceEq, ↓reduceIte, reduceCtorEq, s_vset_eq, s_vclear_eq, s_vkill_eq, s_vrset_eq, s_vrclear_eq, s_vrkill_eq, encRd, hf, rf, lR, tk, lD, tD, oD, gs, ss]))
              exact fin_fp (by simp only [AV.bel, List.all_cons, List.all_nil, refC_bel, Sc.bel]; rfl) (subH_app _ _) (bS _) (by rw [lO]; exact Nat.le_refl _)
            · have eD : doR R ⟨kk, hh, ll⟩ = killN R ll hh 8 := by unfold doR; rw [if_neg h0, if_neg h1]
              rw [eD] at lD tD oD ⊢
              (try simp (config := { maxSteps := 10000000 }) only [go_sem, List.reduceReplicate, BitVec.reduceOfInt, BitVec.reduceToNat, BitVec.reduceToInt, BitVec.reduceEq, BitVec.reduceLT, BitVec.reduceLE, BitVec.reduceAdd, BitVec.reduceSub, BitVec.reduceMul, BitVec.reduceUDiv, BitVec.reduceUMod, BitVec.reduceAnd, BitVec.reduceOr, BitVec.reduceXOr, BitVec.reduceNot, BitVec.reduceNeg, BitVec.reduceHShiftLeft, BitVec.reduceHShiftRight, Nat.reduceAdd, Nat.reduceMul, Nat.reduceSub, Nat.reduceBEq, Nat.reduceEqDiff, Nat.reduceLeDiff, Nat.reduceLT, Int.reduceLE, Int.reduceLT, Int.reduceAdd, Int.reduceSub, Int.reduceMul, Int.reduceNeg, Int.reduceToNat, Int.reduceEq, ↓reduceIte, reduceCtorEq, s_vset_eq, s_vclear_eq, s_vkill_eq, s_vrset_eq, s_vrclear_eq, s_vrkill_eq, encRd, h0, h1, hf, rf, lR, tk, lD, tD, oD, gs, ss, p3]; repeat (simp (disch := omega) only [w64_d, ipos, ineg, dpos, dneg]; try simp (config := { maxSteps := 10000000 }) only [go_sem, List.reduceReplicate, BitVec.reduceOfInt, BitVec.reduceToNat, BitVec.reduceToInt, BitVec.reduceEq, BitVec.reduceLT, BitVec.reduceLE, BitVec.reduceAdd, BitVec.reduceSub, BitVec.reduceMul, BitVec.reduceUDiv, BitVec.reduceUMod, BitVec.reduceAnd, BitVec.reduceOr, BitVec.reduceXOr, BitVec.reduceNot, BitVec.reduceNeg, BitVec.reduceHShiftLeft, BitVec.reduceHShiftRight, Nat.reduceAdd, Nat.reduceMul, Nat.reduceSub, Nat.reduceBEq, Nat.reduceEqDiff, Nat.reduceLeDiff, Nat.reduceLT, Int.reduceLE, Int.reduceLT, Int.reduceAdd, Int.reduceSub, Int.reduceMul, Int.reduceNeg, Int.reduceToNat, Int.reduceEq, ↓reduceIte, reduceCtorEq, s_vset_eq, s_vclear_eq, s_vkill_eq, s_vrset_eq, s_vrclear_eq, s_vrkill_eq, encRd, h0, h1, hf, rf, lR, tk, lD, tD, oD, gs, ss, p3]))
              refine ⟨by repeat' first | apply And.intro | (intro _; kernel_rfl) | kernel_rfl, ?_⟩
              (try simp (config := { maxSteps := 10000000 }) only [go_sem, List.reduceReplicate, BitVec.reduceOfInt, BitVec.reduceToNat, BitVec.reduceToInt, BitVec.reduceEq, BitVec.reduceLT, BitVec.reduceLE, BitVec.reduceAdd, BitVec.reduceSub, BitVec.reduceMul, BitVec.reduceUDiv, BitVec.reduceUMod, BitVec.reduceAnd, BitVec.reduceOr, BitVec.reduceXOr, BitVec.reduceNot, BitVec.reduceNeg, BitVec.reduceHShiftLeft, BitVec.reduceHShiftRight, Nat.reduceAdd, Nat.reduceMul, Nat.reduceSub, Nat.reduceBEq, Nat.reduceEqDiff, Nat.reduceLeDiff, Nat.reduceLT, Int.reduceLE, Int.reduceLT, Int.reduceAdd, Int.reduceSub, Int.reduceMul, Int.reduceNeg, Int.reduceToNat, Int.reduceEq, ↓reduceIte, reduceCtorEq, s_vset_eq, s_vclear_eq, s_vkill_eq, s_vrset_eq, s_vrclear_eq, s_vrkill_eq, encRd, hf, rf, lR, tk, lD, tD, oD, gs, ss]; repeat (simp (disch := omega) only [w64_d, ipos, ineg, dpos, dneg]; try simp (config := { maxSteps := 10000000 }) only [go_sem, List.reduceReplicate, BitVec.reduceOfInt, BitVec.reduceToNat, BitVec.reduceToInt, BitVec.reduceEq, BitVec.reduceLT, BitVec.reduceLE, BitVec.reduceAdd, BitVec.reduceSub, BitVec.reduceMul, BitVec.reduceUDiv, BitVec.reduceUMod, BitVec.reduceAnd, BitVec.reduceOr, BitVec.reduceXOr, BitVec.reduceNot, BitVec.reduceNeg, BitVec.reduceHShiftLeft, BitVec.reduceHShiftRight, Nat.reduceAdd, Nat.reduceMul, Nat.reduceSub, Nat.reduceBEq, Nat.reduceEqDiff, Nat.reduceLeDiff, Nat.reduceLT, Int.reduceLE, Int.reduceLT, Int.reduceAdd, Int.reduceSub, Int.reduceMul, Int.reduceNeg, Int.reduceToNat, Int.reduceEq, ↓reduceIte, reduceCtorEq, s_vset_eq, s_vclear_eq, s_vkill_eq, s_vrset_eq, s_vrclear_eq, s_vrkill_eq, encRd, hf, rf, lR, tk, lD, tD, oD, gs, ss]))
              exact fin_fp (by simp only [AV.bel, List.all_cons, List.all_nil, refC_bel, Sc.bel]; rfl) (subH_app _ _) (bS _) (by rw [lO]; exact Nat.le_refl _)
      · simp at h
    · simp at h
  · simp at h
end
end Go.Proofs.Ytbnfapacbfeabaa
