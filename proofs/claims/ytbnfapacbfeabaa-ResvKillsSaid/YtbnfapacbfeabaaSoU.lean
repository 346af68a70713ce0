/- slices.Sort and slices.Compact of at most 12 uint64s: contracts. -/
import Derived.Test.YtbnfapacbfeabaaSo
namespace Go.Proofs.Ytbnfapacbfeabaa
open Go.Am
set_option linter.unusedSimpArgs false
set_option linter.unusedVariables false
noncomputable section

def ltU (x y : (BitVec 64)) : Bool := decide (x < y)
def s_nanU (args : List AV) : Option AV :=
  match args with
  | [.c (.u x)] => some (.c (.b false))
  | _ => none
theorem s_nanU_eq {x} : s_nanU [.c (.u x)] = some (.c (.b false)) := rfl
set_option maxRecDepth 100000 in
set_option maxHeartbeats 2000000 in
theorem ok_nanU : PuOk Try.prog 41 s_nanU := by
  refine pu_ok (tab := []) hmix TabOk.nil Try.func41 rfl Try.results41 Try.ntmps41 (by kernel_rfl) (by kernel_rfl) ?_
  intro args v h
  unfold s_nanU at h
  split at h
  · rename_i x
    simp only [Option.some.injEq] at h; subst h
    refine ⟨by simp only [List.length_cons, List.length_nil]; decide, rfl, rfl, ?_⟩
    (try simp (config := { maxSteps := 10000000 }) only [go_sem, List.reduceReplicate, BitVec.reduceOfInt, BitVec.reduceToNat, BitVec.reduceToInt, BitVec.reduceEq, BitVec.reduceLT, BitVec.reduceLE, BitVec.reduceAdd, BitVec.reduceSub, BitVec.reduceMul, BitVec.reduceUDiv, BitVec.reduceUMod, BitVec.reduceAnd, BitVec.reduceOr, BitVec.reduceXOr, BitVec.reduceNot, BitVec.reduceNeg, BitVec.reduceHShiftLeft, BitVec.reduceHShiftRight, Nat.reduceAdd, Nat.reduceMul, Nat.reduceSub, Nat.reduceBEq, Nat.reduceEqDiff, Nat.reduceLeDiff, Nat.reduceLT, Int.reduceLE, Int.reduceLT, Int.reduceAdd, Int.reduceSub, Int.reduceMul, Int.reduceNeg, Int.reduceToNat, Int.reduceEq, ↓reduceIte, reduceCtorEq]; repeat (simp (disch := omega) only [w64_d, ipos, ineg, dpos, dneg]; try simp (config := { maxSteps := 10000000 }) only [go_sem, List.reduceReplicate, BitVec.reduceOfInt, BitVec.reduceToNat, BitVec.reduceToInt, BitVec.reduceEq, BitVec.reduceLT, BitVec.reduceLE, BitVec.reduceAdd, BitVec.reduceSub, BitVec.reduceMul, BitVec.reduceUDiv, BitVec.reduceUMod, BitVec.reduceAnd, BitVec.reduceOr, BitVec.reduceXOr, BitVec.reduceNot, BitVec.reduceNeg, BitVec.reduceHShiftLeft, BitVec.reduceHShiftRight, Nat.reduceAdd, Nat.reduceMul, Nat.reduceSub, Nat.reduceBEq, Nat.reduceEqDiff, Nat.reduceLeDiff, Nat.reduceLT, Int.reduceLE, Int.reduceLT, Int.reduceAdd, Int.reduceSub, Int.reduceMul, Int.reduceNeg, Int.reduceToNat, Int.reduceEq, ↓reduceIte, reduceCtorEq]))
  · simp at h
def s_lessU (args : List AV) : Option AV :=
  match args with
  | [.c (.u x), .c (.u y)] => some (.c (.b (decide (x < y))))
  | _ => none
theorem s_lessU_eq {x y} : s_lessU [.c (.u x), .c (.u y)] = some (.c (.b (decide (x < y)))) := rfl
set_option maxRecDepth 100000 in
set_option maxHeartbeats 2000000 in
theorem ok_lessU : PuOk Try.prog 31 s_lessU := by
  refine pu_ok (tab := [(41, .pu s_nanU)]) hmix (TabOk.cons (e := .pu s_nanU) ok_nanU TabOk.nil) Try.func31 rfl Try.results31 Try.ntmps31 (by kernel_rfl) (by kernel_rfl) ?_
  intro args v h
  unfold s_lessU at h
  split at h
  · rename_i x y
    simp only [Option.some.injEq] at h; subst h
    refine ⟨by simp only [List.length_cons, List.length_nil]; decide, rfl, rfl, ?_⟩
    (try simp (config := { maxSteps := 10000000 }) only [go_sem, List.reduceReplicate, BitVec.reduceOfInt, BitVec.reduceToNat, BitVec.reduceToInt, BitVec.reduceEq, BitVec.reduceLT, BitVec.reduceLE, BitVec.reduceAdd, BitVec.reduceSub, BitVec.reduceMul, BitVec.reduceUDiv, BitVec.reduceUMod, BitVec.reduceAnd, BitVec.reduceOr, BitVec.reduceXOr, BitVec.reduceNot, BitVec.reduceNeg, BitVec.reduceHShiftLeft, BitVec.reduceHShiftRight, Nat.reduceAdd, Nat.reduceMul, Nat.reduceSub, Nat.reduceBEq, Nat.reduceEqDiff, Nat.reduceLeDiff, Nat.reduceLT, Int.reduceLE, Int.reduceLT, Int.reduceAdd, Int.reduceSub, Int.reduceMul, Int.reduceNeg, Int.reduceToNat, Int.reduceEq, ↓reduceIte, reduceCtorEq, s_nanU_eq]; repeat (simp (disch := omega) only [w64_d, ipos, ineg, dpos, dneg]; try simp (config := { maxSteps := 10000000 }) only [go_sem, List.reduceReplicate, BitVec.reduceOfInt, BitVec.reduceToNat, BitVec.reduceToInt, BitVec.reduceEq, BitVec.reduceLT, BitVec.reduceLE, BitVec.reduceAdd, BitVec.reduceSub, BitVec.reduceMul, BitVec.reduceUDiv, BitVec.reduceUMod, BitVec.reduceAnd, BitVec.reduceOr, BitVec.reduceXOr, BitVec.reduceNot, BitVec.reduceNeg, BitVec.reduceHShiftLeft, BitVec.reduceHShiftRight, Nat.reduceAdd, Nat.reduceMul, Nat.reduceSub, Nat.reduceBEq, Nat.reduceEqDiff, Nat.reduceLeDiff, Nat.reduceLT, Int.reduceLE, Int.reduceLT, Int.reduceAdd, Int.reduceSub, Int.reduceMul, Int.reduceNeg, Int.reduceToNat, Int.reduceEq, ↓reduceIte, reduceCtorEq, s_nanU_eq]))
  · simp at h
def s_isrtU (args : List AV) (H : AH) : Option (AV × AH) :=
  match args with
  | [.c x, .c (.i 0), .c (.i n)] =>
    match vecD dcU H x with
    | some A => if n = A.length ∧ A.length ≤ 12 then some (.t [], putV H x ((srt ltU A).map gU)) else none
    | none => none
  | _ => none
theorem len_isrtU (args : List AV) (H : AH) (v : AV) (H1 : AH) (h : s_isrtU args H = some (v, H1)) : H.length ≤ H1.length := by
  unfold s_isrtU at h
  repeat' split at h
  all_goals simp at h
  rw [← h.2, putV_len]; exact Nat.le_refl _
theorem s_isrtU_eq {H : AH} {x : Sc} {A : List (BitVec 64)} {n : Int} (hA : vecD dcU H x = some A) (hn : n = A.length) (hl : A.length ≤ 12) : s_isrtU [.c x, .c (.i 0), .c (.i n)] H = some (.t [], putV H x ((srt ltU A).map gU)) := by
  simp only [s_isrtU, hA, hn, hl, and_self, if_true]
set_option maxHeartbeats 4000000 in
set_option maxRecDepth 100000 in
set_option maxHeartbeats 2000000 in
theorem ok_isrtU : FpOk Try.prog 25 s_isrtU := by
  refine fp_ok (s := s_isrtU) (tab := [(31, .pu s_lessU)]) hmix (TabOk.cons (e := .pu s_lessU) ok_lessU TabOk.nil) Try.func25 rfl Try.results25 Try.ntmps25 (by kernel_rfl) (by kernel_rfl) len_isrtU ?_
  intro args H v H1 h hargs hH
  unfold s_isrtU at h
  split at h
  · rename_i x n
    split at h
    · rename_i A hA
      split at h
      · rename_i hc
        obtain ⟨rfl, hl⟩ := hc
        simp only [Option.some.injEq, Prod.mk.injEq] at h
        obtain ⟨rfl, rfl⟩ := h
        refine ⟨by simp only [List.length_cons, List.length_nil]; decide, ?_⟩
        rcases vecD_inv gU_d hA with ⟨rfl, rfl⟩ | ⟨id, rfl, ho⟩
        · (try simp (config := { maxSteps := 10000000 }) only [go_sem, List.reduceReplicate, BitVec.reduceOfInt, BitVec.reduceToNat, BitVec.reduceToInt, BitVec.reduceEq, BitVec.reduceLT, BitVec.reduceLE, BitVec.reduceAdd, BitVec.reduceSub, BitVec.reduceMul, BitVec.reduceUDiv, BitVec.reduceUMod, BitVec.reduceAnd, BitVec.reduceOr, BitVec.reduceXOr, BitVec.reduceNot, BitVec.reduceNeg, BitVec.reduceHShiftLeft, BitVec.reduceHShiftRight, Nat.reduceAdd, Nat.reduceMul, Nat.reduceSub, Nat.reduceBEq, Nat.reduceEqDiff, Nat.reduceLeDiff, Nat.reduceLT, Int.reduceLE, Int.reduceLT, Int.reduceAdd, Int.reduceSub, Int.reduceMul, Int.reduceNeg, Int.reduceToNat, Int.reduceEq, ↓reduceIte, reduceCtorEq, List.length_nil]; repeat (simp (disch := omega) only [w64_d, ipos, ineg, dpos, dneg]; try simp (config := { maxSteps := 10000000 }) only [go_sem, List.reduceReplicate, BitVec.reduceOfInt, BitVec.reduceToNat, BitVec.reduceToInt, BitVec.reduceEq, BitVec.reduceLT, BitVec.reduceLE, BitVec.reduceAdd, BitVec.reduceSub, BitVec.reduceMul, BitVec.reduceUDiv, BitVec.reduceUMod, BitVec.reduceAnd, BitVec.reduceOr, BitVec.reduceXOr, BitVec.reduceNot, BitVec.reduceNeg, BitVec.reduceHShiftLeft, BitVec.reduceHShiftRight, Nat.reduceAdd, Nat.reduceMul, Nat.reduceSub, Nat.reduceBEq, Nat.reduceEqDiff, Nat.reduceLeDiff, Nat.reduceLT, Int.reduceLE, Int.reduceLT, Int.reduceAdd, Int.reduceSub, Int.reduceMul, Int.reduceNeg, Int.reduceToNat, Int.reduceEq, ↓reduceIte, reduceCtorEq, List.length_nil]))
          refine arun_for 0 (fun _ => ([(0, .c .nils), (1, .c (.i 0)), (2, .c (.i 0)), (6, .c (.i 1))], H)) ?_ fun j hj => ?_
          · exact Wk.wk (Nat.le_refl _) (by simp [Am.get]) (by rfl) (subH_refl _) hH
          · (try simp (config := { maxSteps := 10000000 }) only [go_sem, List.reduceReplicate, BitVec.reduceOfInt, BitVec.reduceToNat, BitVec.reduceToInt, BitVec.reduceEq, BitVec.reduceLT, BitVec.reduceLE, BitVec.reduceAdd, BitVec.reduceSub, BitVec.reduceMul, BitVec.reduceUDiv, BitVec.reduceUMod, BitVec.reduceAnd, BitVec.reduceOr, BitVec.reduceXOr, BitVec.reduceNot, BitVec.reduceNeg, BitVec.reduceHShiftLeft, BitVec.reduceHShiftRight, Nat.reduceAdd, Nat.reduceMul, Nat.reduceSub, Nat.reduceBEq, Nat.reduceEqDiff, Nat.reduceLeDiff, Nat.reduceLT, Int.reduceLE, Int.reduceLT, Int.reduceAdd, Int.reduceSub, Int.reduceMul, Int.reduceNeg, Int.reduceToNat, Int.reduceEq, ↓reduceIte, reduceCtorEq]; repeat (simp (disch := omega) only [w64_d, ipos, ineg, dpos, dneg]; try simp (config := { maxSteps := 10000000 }) only [go_sem, List.reduceReplicate, BitVec.reduceOfInt, BitVec.reduceToNat, BitVec.reduceToInt, BitVec.reduceEq, BitVec.reduceLT, BitVec.reduceLE, BitVec.reduceAdd, BitVec.reduceSub, BitVec.reduceMul, BitVec.reduceUDiv, BitVec.reduceUMod, BitVec.reduceAnd, BitVec.reduceOr, BitVec.reduceXOr, BitVec.reduceNot, BitVec.reduceNeg, BitVec.reduceHShiftLeft, BitVec.reduceHShiftRight, Nat.reduceAdd, Nat.reduceMul, Nat.reduceSub, Nat.reduceBEq, Nat.reduceEqDiff, Nat.reduceLeDiff, Nat.reduceLT, Int.reduceLE, Int.reduceLT, Int.reduceAdd, Int.reduceSub, Int.reduceMul, Int.reduceNeg, Int.reduceToNat, Int.reduceEq, ↓reduceIte, reduceCtorEq]))
            exact fin_fp rfl (subH_refl _) hH (Nat.le_refl _)
        · have lid : id < H.length := hg_lt (by rw [ho]; rfl)
          let O : List (BitVec 64) → AH := fun L => H.set id (.vec 1 (L.map gU))
          have gO : ∀ L, hg (O L) id = .vec 1 (L.map gU) := fun L => hg_set_same lid
          have sO : ∀ L M, (O L).set id (.vec 1 (M.map gU)) = O M := fun L M => List.set_set ..
          have lO : ∀ L, (O L).length = H.length := fun L => List.length_set
          have bO : ∀ L, belH (O L) = true := fun L => bel_set' hH (map_bel gU_num L _)
          have h1 : O A = H := set_self ho lid
          have fin : putV H (.sl id 0 A.length A.length) ((srt ltU A).map gU) = O (srt ltU A) := rfl
          rw [fin]
          clear_value O
          (try simp (config := { maxSteps := 10000000 }) only [go_sem, List.reduceReplicate, BitVec.reduceOfInt, BitVec.reduceToNat, BitVec.reduceToInt, BitVec.reduceEq, BitVec.reduceLT, BitVec.reduceLE, BitVec.reduceAdd, BitVec.reduceSub, BitVec.reduceMul, BitVec.reduceUDiv, BitVec.reduceUMod, BitVec.reduceAnd, BitVec.reduceOr, BitVec.reduceXOr, BitVec.reduceNot, BitVec.reduceNeg, BitVec.reduceHShiftLeft, BitVec.reduceHShiftRight, Nat.reduceAdd, Nat.reduceMul, Nat.reduceSub, Nat.reduceBEq, Nat.reduceEqDiff, Nat.reduceLeDiff, Nat.reduceLT, Int.reduceLE, Int.reduceLT, Int.reduceAdd, Int.reduceSub, Int.reduceMul, Int.reduceNeg, Int.reduceToNat, Int.reduceEq, ↓reduceIte, reduceCtorEq]; repeat (simp (disch := omega) only [w64_d, ipos, ineg, dpos, dneg]; try simp (config := { maxSteps := 10000000 }) only [go_sem, List.reduceReplicate, BitVec.reduceOfInt, BitVec.reduceToNat, BitVec.reduceToInt, BitVec.reduceEq, BitVec.reduceLT, BitVec.reduceLE, BitVec.reduceAdd, BitVec.reduceSub, BitVec.reduceMul, BitVec.reduceUDiv, BitVec.reduceUMod, BitVec.reduceAnd, BitVec.reduceOr, BitVec.reduceXOr, BitVec.reduceNot, BitVec.reduceNeg, BitVec.reduceHShiftLeft, BitVec.reduceHShiftRight, Nat.reduceAdd, Nat.reduceMul, Nat.reduceSub, Nat.reduceBEq, Nat.reduceEqDiff, Nat.reduceLeDiff, Nat.reduceLT, Int.reduceLE, Int.reduceLT, Int.reduceAdd, Int.reduceSub, Int.reduceMul, Int.reduceNeg, Int.reduceToNat, Int.reduceEq, ↓reduceIte, reduceCtorEq]))
          refine arun_for (A.length - 1) (fun j => ([(0, .c (.sl id 0 A.length A.length)), (1, .c (.i 0)), (2, .c (.i A.length)), (6, .c (.i (j + 1 : Nat)))], O (rwS ltU A (j + 1)))) ?_ fun j hj => ?_
          · rw [rwS_1, h1]
            exact Wk.wk (Nat.le_refl _) (by simp [Am.get]) (by simp [AV.bel, Sc.bel, lid]) (subH_refl _) hH
          · by_cases hlt : j + 1 < A.length
            · obtain ⟨a, ha⟩ : ∃ a, A[j + 1]? = some a := ⟨_, List.getElem?_eq_getElem hlt⟩
              have ec : ((j + 1 : Nat) : Int) < A.length := by omega
              (try simp (config := { maxSteps := 10000000 }) only [go_sem, List.reduceReplicate, BitVec.reduceOfInt, BitVec.reduceToNat, BitVec.reduceToInt, BitVec.reduceEq, BitVec.reduceLT, BitVec.reduceLE, BitVec.reduceAdd, BitVec.reduceSub, BitVec.reduceMul, BitVec.reduceUDiv, BitVec.reduceUMod, BitVec.reduceAnd, BitVec.reduceOr, BitVec.reduceXOr, BitVec.reduceNot, BitVec.reduceNeg, BitVec.reduceHShiftLeft, BitVec.reduceHShiftRight, Nat.reduceAdd, Nat.reduceMul, Nat.reduceSub, Nat.reduceBEq, Nat.reduceEqDiff, Nat.reduceLeDiff, Nat.reduceLT, Int.reduceLE, Int.reduceLT, Int.reduceAdd, Int.reduceSub, Int.reduceMul, Int.reduceNeg, Int.reduceToNat, Int.reduceEq, ↓reduceIte, reduceCtorEq, ec]; repeat (simp (disch := omega) only [w64_d, ipos, ineg, dpos, dneg]; try simp (config := { maxSteps := 10000000 }) only [go_sem, List.reduceReplicate, BitVec.reduceOfInt, BitVec.reduceToNat, BitVec.reduceToInt, BitVec.reduceEq, BitVec.reduceLT, BitVec.reduceLE, BitVec.reduceAdd, BitVec.reduceSub, BitVec.reduceMul, BitVec.reduceUDiv, BitVec.reduceUMod, BitVec.reduceAnd, BitVec.reduceOr, BitVec.reduceXOr, BitVec.reduceNot, BitVec.reduceNeg, BitVec.reduceHShiftLeft, BitVec.reduceHShiftRight, Nat.reduceAdd, Nat.reduceMul, Nat.reduceSub, Nat.reduceBEq, Nat.reduceEqDiff, Nat.reduceLeDiff, Nat.reduceLT, Int.reduceLE, Int.reduceLT, Int.reduceAdd, Int.reduceSub, Int.reduceMul, Int.reduceNeg, Int.reduceToNat, Int.reduceEq, ↓reduceIte, reduceCtorEq, ec]))
              have lP : (preS ltU A (j + 1)).length = j + 1 := preS_len (by omega)
              have kP := insK_le (lt := ltU) (x := a) (P := preS ltU A (j + 1))
              rw [rwS_mv ha]
              refine arun_for (insK ltU a (preS ltU A (j + 1))) (fun k => ([(0, .c (.sl id 0 A.length A.length)), (1, .c (.i 0)), (2, .c (.i A.length)), (6, .c (.i (j + 1 : Nat))), (7, .c (.i (j + 1 - k : Nat)))], O (mvS (preS ltU A (j + 1)) a (A.drop (j + 2)) k))) ?_ fun k hk => ?_
              · exact Wk.wk (by simp [lo, lO]) (by simp [Am.get]) (by simp [AV.bel, Sc.bel, lid, lO]) (subH_refl _) (bO _)
              · have lM : (mvS (preS ltU A (j + 1)) a (A.drop (j + 2)) k).length = A.length := by rw [mvS_len, lP]; simp; omega
                by_cases hz : k < j + 1
                · obtain ⟨y, hy⟩ : ∃ y, (preS ltU A (j + 1))[(preS ltU A (j + 1)).length - 1 - k]? = some y := ⟨_, List.getElem?_eq_getElem (by omega)⟩
                  have m1 := mvS_x (R := A.drop (j + 2)) (x := a) (k := k) (P := preS ltU A (j + 1)) (by omega)
                  have m2 := mvS_y (R := A.drop (j + 2)) (x := a) (k := k) (P := preS ltU A (j + 1)) (by omega)
                  have st := mvS_step (R := A.drop (j + 2)) (x := a) (k := k) (P := preS ltU A (j + 1)) (by omega) hy
                  have kg := insK_get (lt := ltU) (x := a) (P := preS ltU A (j + 1)) (k := k) (y := y)
                  have ke := insK_end (lt := ltU) (x := a) (P := preS ltU A (j + 1)) (y := y)
                  have en := rwS_end (lt := ltU) ha
                  rw [hy] at m2
                  rw [lP] at m1 m2 st
                  have w1 : w64 ((j + 1 - k : Nat) - 1) = ((j + 1 - k - 1 : Nat) : Int) := by rw [w64_d (by omega) (by omega)]; omega
                  generalize hL : mvS (preS ltU A (j + 1)) a (A.drop (j + 2)) k = L at *
                  generalize hq : j + 1 - k = q at *
                  have q0 : (0 : Int) < q := by omega
                  have q1 : (q : Int) < A.length := by omega
                  have q2 : ((q - 1 : Nat) : Int) < A.length := by omega
                  have q3 : (0 : Int) ≤ ((q - 1 : Nat) : Int) := by omega
                  have q4 : (0 : Int) ≤ (q : Int) := by omega
                  have q5 : q + 1 ≤ A.length := by omega
                  have q6 : q - 1 + 1 ≤ A.length := by omega
                  have c1 := map_getD (g := gU) m1
                  have c2 := map_getD (g := gU) m2
                  have r1 : wr (L.map gU) q [.u y] = (L.set q y).map gU := wr_map (g := gU) (by omega)
                  have r2 : wr ((L.set q y).map gU) (q - 1) [.u a] = ((L.set q y).set (q - 1) a).map gU := wr_map (g := gU) (by simp; omega)
                  (try simp (config := { maxSteps := 10000000 }) only [go_sem, List.reduceReplicate, BitVec.reduceOfInt, BitVec.reduceToNat, BitVec.reduceToInt, BitVec.reduceEq, BitVec.reduceLT, BitVec.reduceLE, BitVec.reduceAdd, BitVec.reduceSub, BitVec.reduceMul, BitVec.reduceUDiv, BitVec.reduceUMod, BitVec.reduceAnd, BitVec.reduceOr, BitVec.reduceXOr, BitVec.reduceNot, BitVec.reduceNeg, BitVec.reduceHShiftLeft, BitVec.reduceHShiftRight, Nat.reduceAdd, Nat.reduceMul, Nat.reduceSub, Nat.reduceBEq, Nat.reduceEqDiff, Nat.reduceLeDiff, Nat.reduceLT, Int.reduceLE, Int.reduceLT, Int.reduceAdd, Int.reduceSub, Int.reduceMul, Int.reduceNeg, Int.reduceToNat, Int.reduceEq, ↓reduceIte, reduceCtorEq, s_lessU_eq, w1, q0, q1, q2, q3, q4, q5, q6, gO, lM, List.length_map, Int.toNat_natCast, c1, c2, gU]; repeat (simp (disch := omega) only [w64_d, ipos, ineg, dpos, dneg]; try simp (config := { maxSteps := 10000000 }) only [go_sem, List.reduceReplicate, BitVec.reduceOfInt, BitVec.reduceToNat, BitVec.reduceToInt, BitVec.reduceEq, BitVec.reduceLT, BitVec.reduceLE, BitVec.reduceAdd, BitVec.reduceSub, BitVec.reduceMul, BitVec.reduceUDiv, BitVec.reduceUMod, BitVec.reduceAnd, BitVec.reduceOr, BitVec.reduceXOr, BitVec.reduceNot, BitVec.reduceNeg, BitVec.reduceHShiftLeft, BitVec.reduceHShiftRight, Nat.reduceAdd, Nat.reduceMul, Nat.reduceSub, Nat.reduceBEq, Nat.reduceEqDiff, Nat.reduceLeDiff, Nat.reduceLT, Int.reduceLE, Int.reduceLT, Int.reduceAdd, Int.reduceSub, Int.reduceMul, Int.reduceNeg, Int.reduceToNat, Int.reduceEq, ↓reduceIte, reduceCtorEq, s_lessU_eq, w1, q0, q1, q2, q3, q4, q5, q6, gO, lM, List.length_map, Int.toNat_natCast, c1, c2, gU]))
                  by_cases hk2 : k < insK ltU a (preS ltU A (j + 1))
                  · have dy : a < y := by
                      have := kg hk2 (by rw [← hy])
                      simpa [ltU] using this
                    (try simp (config := { maxSteps := 10000000 }) only [go_sem, List.reduceReplicate, BitVec.reduceOfInt, BitVec.reduceToNat, BitVec.reduceToInt, BitVec.reduceEq, BitVec.reduceLT, BitVec.reduceLE, BitVec.reduceAdd, BitVec.reduceSub, BitVec.reduceMul, BitVec.reduceUDiv, BitVec.reduceUMod, BitVec.reduceAnd, BitVec.reduceOr, BitVec.reduceXOr, BitVec.reduceNot, BitVec.reduceNeg, BitVec.reduceHShiftLeft, BitVec.reduceHShiftRight, Nat.reduceAdd, Nat.reduceMul, Nat.reduceSub, Nat.reduceBEq, Nat.reduceEqDiff, Nat.reduceLeDiff, Nat.reduceLT, Int.reduceLE, Int.reduceLT, Int.reduceAdd, Int.reduceSub, Int.reduceMul, Int.reduceNeg, Int.reduceToNat, Int.reduceEq, ↓reduceIte, reduceCtorEq, s_lessU_eq, dy, w1, q0, q1, q2, q3, q4, q5, q6, gO, sO, lM, List.length_map, List.length_set, Int.toNat_natCast, c1, c2, r1, r2, gU]; repeat (simp (disch := omega) only [w64_d, ipos, ineg, dpos, dneg]; try simp (config := { maxSteps := 10000000 }) only [go_sem, List.reduceReplicate, BitVec.reduceOfInt, BitVec.reduceToNat, BitVec.reduceToInt, BitVec.reduceEq, BitVec.reduceLT, BitVec.reduceLE, BitVec.reduceAdd, BitVec.reduceSub, BitVec.reduceMul, BitVec.reduceUDiv, BitVec.reduceUMod, BitVec.reduceAnd, BitVec.reduceOr, BitVec.reduceXOr, BitVec.reduceNot, BitVec.reduceNeg, BitVec.reduceHShiftLeft, BitVec.reduceHShiftRight, Nat.reduceAdd, Nat.reduceMul, Nat.reduceSub, Nat.reduceBEq, Nat.reduceEqDiff, Nat.reduceLeDiff, Nat.reduceLT, Int.reduceLE, Int.reduceLT, Int.reduceAdd, Int.reduceSub, Int.reduceMul, Int.reduceNeg, Int.reduceToNat, Int.reduceEq, ↓reduceIte, reduceCtorEq, s_lessU_eq, dy, w1, q0, q1, q2, q3, q4, q5, q6, gO, sO, lM, List.length_map, List.length_set, Int.toNat_natCast, c1, c2, r1, r2, gU]))
                    refine ⟨by repeat' first | apply And.intro | (intro _; kernel_rfl), ?_⟩
                    (try simp (config := { maxSteps := 10000000 }) only [go_sem, List.reduceReplicate, BitVec.reduceOfInt, BitVec.reduceToNat, BitVec.reduceToInt, BitVec.reduceEq, BitVec.reduceLT, BitVec.reduceLE, BitVec.reduceAdd, BitVec.reduceSub, BitVec.reduceMul, BitVec.reduceUDiv, BitVec.reduceUMod, BitVec.reduceAnd, BitVec.reduceOr, BitVec.reduceXOr, BitVec.reduceNot, BitVec.reduceNeg, BitVec.reduceHShiftLeft, BitVec.reduceHShiftRight, Nat.reduceAdd, Nat.reduceMul, Nat.reduceSub, Nat.reduceBEq, Nat.reduceEqDiff, Nat.reduceLeDiff, Nat.reduceLT, Int.reduceLE, Int.reduceLT, Int.reduceAdd, Int.reduceSub, Int.reduceMul, Int.reduceNeg, Int.reduceToNat, Int.reduceEq, ↓reduceIte, reduceCtorEq, s_lessU_eq, dy, w1, q0, q1, q2, q3, q4, q5, q6, gO, sO, lM, List.length_map, List.length_set, Int.toNat_natCast, c1, c2, r1, r2, gU, st]; repeat (simp (disch := omega) only [w64_d, ipos, ineg, dpos, dneg]; try simp (config := { maxSteps := 10000000 }) only [go_sem, List.reduceReplicate, BitVec.reduceOfInt, BitVec.reduceToNat, BitVec.reduceToInt, BitVec.reduceEq, BitVec.reduceLT, BitVec.reduceLE, BitVec.reduceAdd, BitVec.reduceSub, BitVec.reduceMul, BitVec.reduceUDiv, BitVec.reduceUMod, BitVec.reduceAnd, BitVec.reduceOr, BitVec.reduceXOr, BitVec.reduceNot, BitVec.reduceNeg, BitVec.reduceHShiftLeft, BitVec.reduceHShiftRight, Nat.reduceAdd, Nat.reduceMul, Nat.reduceSub, Nat.reduceBEq, Nat.reduceEqDiff, Nat.reduceLeDiff, Nat.reduceLT, Int.reduceLE, Int.reduceLT, Int.reduceAdd, Int.reduceSub, Int.reduceMul, Int.reduceNeg, Int.reduceToNat, Int.reduceEq, ↓reduceIte, reduceCtorEq, s_lessU_eq, dy, w1, q0, q1, q2, q3, q4, q5, q6, gO, sO, lM, List.length_map, List.length_set, Int.toNat_natCast, c1, c2, r1, r2, gU, st]))
                    refine ⟨by repeat' first | apply And.intro | (intro _; kernel_rfl), k + 1, by omega, by omega, Wk.wk (by simp [lo, lO]) ?_ (by simp [AV.bel, Sc.bel, lid, lO]) (subH_refl _) (bO _)⟩
                    have w2 : j + 1 - (k + 1) = q - 1 := by omega
                    simp [Am.get, w2]
                  · obtain rfl : k = insK ltU a (preS ltU A (j + 1)) := by omega
                    have dy : ¬ a < y := by
                      have := ke (by omega) (by rw [← hy])
                      simpa [ltU] using this
                    (try simp (config := { maxSteps := 10000000 }) only [go_sem, List.reduceReplicate, BitVec.reduceOfInt, BitVec.reduceToNat, BitVec.reduceToInt, BitVec.reduceEq, BitVec.reduceLT, BitVec.reduceLE, BitVec.reduceAdd, BitVec.reduceSub, BitVec.reduceMul, BitVec.reduceUDiv, BitVec.reduceUMod, BitVec.reduceAnd, BitVec.reduceOr, BitVec.reduceXOr, BitVec.reduceNot, BitVec.reduceNeg, BitVec.reduceHShiftLeft, BitVec.reduceHShiftRight, Nat.reduceAdd, Nat.reduceMul, Nat.reduceSub, Nat.reduceBEq, Nat.reduceEqDiff, Nat.reduceLeDiff, Nat.reduceLT, Int.reduceLE, Int.reduceLT, Int.reduceAdd, Int.reduceSub, Int.reduceMul, Int.reduceNeg, Int.reduceToNat, Int.reduceEq, ↓reduceIte, reduceCtorEq, s_lessU_eq, dy, w1]; repeat (simp (disch := omega) only [w64_d, ipos, ineg, dpos, dneg]; try simp (config := { maxSteps := 10000000 }) only [go_sem, List.reduceReplicate, BitVec.reduceOfInt, BitVec.reduceToNat, BitVec.reduceToInt, BitVec.reduceEq, BitVec.reduceLT, BitVec.reduceLE, BitVec.reduceAdd, BitVec.reduceSub, BitVec.reduceMul, BitVec.reduceUDiv, BitVec.reduceUMod, BitVec.reduceAnd, BitVec.reduceOr, BitVec.reduceXOr, BitVec.reduceNot, BitVec.reduceNeg, BitVec.reduceHShiftLeft, BitVec.reduceHShiftRight, Nat.reduceAdd, Nat.reduceMul, Nat.reduceSub, Nat.reduceBEq, Nat.reduceEqDiff, Nat.reduceLeDiff, Nat.reduceLT, Int.reduceLE, Int.reduceLT, Int.reduceAdd, Int.reduceSub, Int.reduceMul, Int.reduceNeg, Int.reduceToNat, Int.reduceEq, ↓reduceIte, reduceCtorEq, s_lessU_eq, dy, w1]))
                    rw [← hL, en]
                    refine ⟨j + 1, by omega, by omega, Wk.wk (by simp [lo, lO]) ?_ (by simp [AV.bel, Sc.bel, lid, lO]) (subH_refl _) (bO _)⟩
                    simp [Am.get]
                · have hq : j + 1 - k = 0 := by omega
                  obtain rfl : k = insK ltU a (preS ltU A (j + 1)) := by omega
                  have en := rwS_end (lt := ltU) ha
                  (try simp (config := { maxSteps := 10000000 }) only [go_sem, List.reduceReplicate, BitVec.reduceOfInt, BitVec.reduceToNat, BitVec.reduceToInt, BitVec.reduceEq, BitVec.reduceLT, BitVec.reduceLE, BitVec.reduceAdd, BitVec.reduceSub, BitVec.reduceMul, BitVec.reduceUDiv, BitVec.reduceUMod, BitVec.reduceAnd, BitVec.reduceOr, BitVec.reduceXOr, BitVec.reduceNot, BitVec.reduceNeg, BitVec.reduceHShiftLeft, BitVec.reduceHShiftRight, Nat.reduceAdd, Nat.reduceMul, Nat.reduceSub, Nat.reduceBEq, Nat.reduceEqDiff, Nat.reduceLeDiff, Nat.reduceLT, Int.reduceLE, Int.reduceLT, Int.reduceAdd, Int.reduceSub, Int.reduceMul, Int.reduceNeg, Int.reduceToNat, Int.reduceEq, ↓reduceIte, reduceCtorEq, s_lessU_eq, hq, Int.natCast_zero]; repeat (simp (disch := omega) only [w64_d, ipos, ineg, dpos, dneg]; try simp (config := { maxSteps := 10000000 }) only [go_sem, List.reduceReplicate, BitVec.reduceOfInt, BitVec.reduceToNat, BitVec.reduceToInt, BitVec.reduceEq, BitVec.reduceLT, BitVec.reduceLE, BitVec.reduceAdd, BitVec.reduceSub, BitVec.reduceMul, BitVec.reduceUDiv, BitVec.reduceUMod, BitVec.reduceAnd, BitVec.reduceOr, BitVec.reduceXOr, BitVec.reduceNot, BitVec.reduceNeg, BitVec.reduceHShiftLeft, BitVec.reduceHShiftRight, Nat.reduceAdd, Nat.reduceMul, Nat.reduceSub, Nat.reduceBEq, Nat.reduceEqDiff, Nat.reduceLeDiff, Nat.reduceLT, Int.reduceLE, Int.reduceLT, Int.reduceAdd, Int.reduceSub, Int.reduceMul, Int.reduceNeg, Int.reduceToNat, Int.reduceEq, ↓reduceIte, reduceCtorEq, s_lessU_eq, hq, Int.natCast_zero]))
                  rw [en]
                  refine ⟨j + 1, by omega, by omega, Wk.wk (by simp [lo, lO]) ?_ (by simp [AV.bel, Sc.bel, lid, lO]) (subH_refl _) (bO _)⟩
                  simp [Am.get]
            · have ec : ¬ ((j + 1 : Nat) : Int) < A.length := by omega
              have e2 : rwS ltU A (j + 1) = srt ltU A := by
                rcases Nat.lt_or_ge 0 A.length with h0 | h0
                · rw [show j + 1 = A.length by omega, rwS_all]
                · obtain rfl : A = [] := List.eq_nil_of_length_eq_zero (by omega)
                  obtain rfl : j = 0 := by simpa using hj
                  rfl
              (try simp (config := { maxSteps := 10000000 }) only [go_sem, List.reduceReplicate, BitVec.reduceOfInt, BitVec.reduceToNat, BitVec.reduceToInt, BitVec.reduceEq, BitVec.reduceLT, BitVec.reduceLE, BitVec.reduceAdd, BitVec.reduceSub, BitVec.reduceMul, BitVec.reduceUDiv, BitVec.reduceUMod, BitVec.reduceAnd, BitVec.reduceOr, BitVec.reduceXOr, BitVec.reduceNot, BitVec.reduceNeg, BitVec.reduceHShiftLeft, BitVec.reduceHShiftRight, Nat.reduceAdd, Nat.reduceMul, Nat.reduceSub, Nat.reduceBEq, Nat.reduceEqDiff, Nat.reduceLeDiff, Nat.reduceLT, Int.reduceLE, Int.reduceLT, Int.reduceAdd, Int.reduceSub, Int.reduceMul, Int.reduceNeg, Int.reduceToNat, Int.reduceEq, ↓reduceIte, reduceCtorEq, ec, e2]; repeat (simp (disch := omega) only [w64_d, ipos, ineg, dpos, dneg]; try simp (config := { maxSteps := 10000000 }) only [go_sem, List.reduceReplicate, BitVec.reduceOfInt, BitVec.reduceToNat, BitVec.reduceToInt, BitVec.reduceEq, BitVec.reduceLT, BitVec.reduceLE, BitVec.reduceAdd, BitVec.reduceSub, BitVec.reduceMul, BitVec.reduceUDiv, BitVec.reduceUMod, BitVec.reduceAnd, BitVec.reduceOr, BitVec.reduceXOr, BitVec.reduceNot, BitVec.reduceNeg, BitVec.reduceHShiftLeft, BitVec.reduceHShiftRight, Nat.reduceAdd, Nat.reduceMul, Nat.reduceSub, Nat.reduceBEq, Nat.reduceEqDiff, Nat.reduceLeDiff, Nat.reduceLT, Int.reduceLE, Int.reduceLT, Int.reduceAdd, Int.reduceSub, Int.reduceMul, Int.reduceNeg, Int.reduceToNat, Int.reduceEq, ↓reduceIte, reduceCtorEq, ec, e2]))
              exact fin_fp rfl (subH_refl _) (bO _) (by rw [lO]; exact Nat.le_refl _)
      · simp at h
    · simp at h
  · simp at h
def s_pdqU (args : List AV) (H : AH) : Option (AV × AH) :=
  match args with
  | [.c x, .c (.i 0), .c (.i n), .c (.i _)] => s_isrtU [.c x, .c (.i 0), .c (.i n)] H
  | _ => none
theorem len_pdqU (args : List AV) (H : AH) (v : AV) (H1 : AH) (h : s_pdqU args H = some (v, H1)) : H.length ≤ H1.length := by
  unfold s_pdqU at h
  split at h
  · exact len_isrtU _ _ _ _ h
  · simp at h
theorem s_pdqU_eq {H : AH} {x : Sc} {A : List (BitVec 64)} {n m : Int} (hA : vecD dcU H x = some A) (hn : n = A.length) (hl : A.length ≤ 12) : s_pdqU [.c x, .c (.i 0), .c (.i n), .c (.i m)] H = some (.t [], putV H x ((srt ltU A).map gU)) := s_isrtU_eq hA hn hl
theorem isrtU_inv {H H1 : AH} {x : Sc} {n : Int} {v : AV} (h : s_isrtU [.c x, .c (.i 0), .c (.i n)] H = some (v, H1)) : ∃ A, vecD dcU H x = some A ∧ n = A.length ∧ A.length ≤ 12 ∧ v = .t [] ∧ H1 = putV H x ((srt ltU A).map gU) := by
  simp only [s_isrtU] at h
  split at h
  · rename_i A hA
    split at h
    · rename_i hc
      simp only [Option.some.injEq, Prod.mk.injEq] at h
      exact ⟨A, hA, hc.1, hc.2, h.1.symm, h.2.symm⟩
    · simp at h
  · simp at h
theorem srtVU_bel {H : AH} {x : Sc} {A B : List (BitVec 64)} (hH : belH H = true) (hA : vecD dcU H x = some A) : belH (putV H x (B.map gU)) = true := by
  rcases vecD_inv gU_d hA with ⟨rfl, rfl⟩ | ⟨id, rfl, ho⟩
  · exact hH
  · exact bel_set' hH (map_bel gU_num B _)
theorem vecU_bel {H : AH} {x : Sc} {A : List (BitVec 64)} (hA : vecD dcU H x = some A) : x.bel H.length = true := by
  rcases vecD_inv gU_d hA with ⟨rfl, rfl⟩ | ⟨id, rfl, ho⟩
  · rfl
  · simpa [Sc.bel] using hg_lt (H := H) (i := id) (by rw [ho]; rfl)
set_option maxRecDepth 100000 in
set_option maxHeartbeats 2000000 in
theorem ok_pdqU : FpOk Try.prog 23 s_pdqU := by
  refine fp_ok (s := s_pdqU) (tab := [(25, .fp s_isrtU)]) hmix (TabOk.cons (e := .fp s_isrtU) ok_isrtU TabOk.nil) Try.func23 rfl Try.results23 Try.ntmps23 (by kernel_rfl) (by kernel_rfl) len_pdqU ?_
  intro args H v H1 h hargs hH
  unfold s_pdqU at h
  split at h
  · rename_i x n m
    have h0 := h
    obtain ⟨A, hA, rfl, hl, rfl, rfl⟩ := isrtU_inv h
    refine ⟨by simp only [List.length_cons, List.length_nil]; decide, ?_⟩
    (try simp (config := { maxSteps := 10000000 }) only [go_sem, List.reduceReplicate, BitVec.reduceOfInt, BitVec.reduceToNat, BitVec.reduceToInt, BitVec.reduceEq, BitVec.reduceLT, BitVec.reduceLE, BitVec.reduceAdd, BitVec.reduceSub, BitVec.reduceMul, BitVec.reduceUDiv, BitVec.reduceUMod, BitVec.reduceAnd, BitVec.reduceOr, BitVec.reduceXOr, BitVec.reduceNot, BitVec.reduceNeg, BitVec.reduceHShiftLeft, BitVec.reduceHShiftRight, Nat.reduceAdd, Nat.reduceMul, Nat.reduceSub, Nat.reduceBEq, Nat.reduceEqDiff, Nat.reduceLeDiff, Nat.reduceLT, Int.reduceLE, Int.reduceLT, Int.reduceAdd, Int.reduceSub, Int.reduceMul, Int.reduceNeg, Int.reduceToNat, Int.reduceEq, ↓reduceIte, reduceCtorEq]; repeat (simp (disch := omega) only [w64_d, ipos, ineg, dpos, dneg]; try simp (config := { maxSteps := 10000000 }) only [go_sem, List.reduceReplicate, BitVec.reduceOfInt, BitVec.reduceToNat, BitVec.reduceToInt, BitVec.reduceEq, BitVec.reduceLT, BitVec.reduceLE, BitVec.reduceAdd, BitVec.reduceSub, BitVec.reduceMul, BitVec.reduceUDiv, BitVec.reduceUMod, BitVec.reduceAnd, BitVec.reduceOr, BitVec.reduceXOr, BitVec.reduceNot, BitVec.reduceNeg, BitVec.reduceHShiftLeft, BitVec.reduceHShiftRight, Nat.reduceAdd, Nat.reduceMul, Nat.reduceSub, Nat.reduceBEq, Nat.reduceEqDiff, Nat.reduceLeDiff, Nat.reduceLT, Int.reduceLE, Int.reduceLT, Int.reduceAdd, Int.reduceSub, Int.reduceMul, Int.reduceNeg, Int.reduceToNat, Int.reduceEq, ↓reduceIte, reduceCtorEq]))
    refine arun_for 0 (fun _ => ([(0, .c x), (1, .c (.i 0)), (2, .c (.i A.length))], H)) ?_ fun j hj => ?_
    · exact Wk.wk (Nat.le_refl _) (by simp [Am.get]) (by simp only [List.all_cons, List.all_nil, AV.bel, vecU_bel hA]; rfl) (subH_refl _) hH
    · have w1 : w64 ((A.length : Int) - 0) = A.length := by rw [w64_d (by omega) (by omega)]; omega
      have c1 : (A.length : Int) ≤ 12 := by omega
      (try simp (config := { maxSteps := 10000000 }) only [go_sem, List.reduceReplicate, BitVec.reduceOfInt, BitVec.reduceToNat, BitVec.reduceToInt, BitVec.reduceEq, BitVec.reduceLT, BitVec.reduceLE, BitVec.reduceAdd, BitVec.reduceSub, BitVec.reduceMul, BitVec.reduceUDiv, BitVec.reduceUMod, BitVec.reduceAnd, BitVec.reduceOr, BitVec.reduceXOr, BitVec.reduceNot, BitVec.reduceNeg, BitVec.reduceHShiftLeft, BitVec.reduceHShiftRight, Nat.reduceAdd, Nat.reduceMul, Nat.reduceSub, Nat.reduceBEq, Nat.reduceEqDiff, Nat.reduceLeDiff, Nat.reduceLT, Int.reduceLE, Int.reduceLT, Int.reduceAdd, Int.reduceSub, Int.reduceMul, Int.reduceNeg, Int.reduceToNat, Int.reduceEq, ↓reduceIte, reduceCtorEq, w1, c1, h0]; repeat (simp (disch := omega) only [w64_d, ipos, ineg, dpos, dneg]; try simp (config := { maxSteps := 10000000 }) only [go_sem, List.reduceReplicate, BitVec.reduceOfInt, BitVec.reduceToNat, BitVec.reduceToInt, BitVec.reduceEq, BitVec.reduceLT, BitVec.reduceLE, BitVec.reduceAdd, BitVec.reduceSub, BitVec.reduceMul, BitVec.reduceUDiv, BitVec.reduceUMod, BitVec.reduceAnd, BitVec.reduceOr, BitVec.reduceXOr, BitVec.reduceNot, BitVec.reduceNeg, BitVec.reduceHShiftLeft, BitVec.reduceHShiftRight, Nat.reduceAdd, Nat.reduceMul, Nat.reduceSub, Nat.reduceBEq, Nat.reduceEqDiff, Nat.reduceLeDiff, Nat.reduceLT, Int.reduceLE, Int.reduceLT, Int.reduceAdd, Int.reduceSub, Int.reduceMul, Int.reduceNeg, Int.reduceToNat, Int.reduceEq, ↓reduceIte, reduceCtorEq, w1, c1, h0]))
      exact fin_fp rfl (subH_refl _) (srtVU_bel hH hA) (by rw [putV_len]; exact Nat.le_refl _)
  · simp at h
def s_sortU (args : List AV) (H : AH) : Option (AV × AH) :=
  match args with
  | [.c x] =>
    match vecD dcU H x with
    | some A => if A.length ≤ 12 then some (.t [], putV H x ((srt ltU A).map gU)) else none
    | none => none
  | _ => none
theorem len_sortU (args : List AV) (H : AH) (v : AV) (H1 : AH) (h : s_sortU args H = some (v, H1)) : H.length ≤ H1.length := by
  unfold s_sortU at h
  repeat' split at h
  all_goals simp at h
  rw [← h.2, putV_len]; exact Nat.le_refl _
theorem s_sortU_eq {H : AH} {x : Sc} {A : List (BitVec 64)} (hA : vecD dcU H x = some A) (hl : A.length ≤ 12) : s_sortU [.c x] H = some (.t [], putV H x ((srt ltU A).map gU)) := by
  simp only [s_sortU, hA, hl, if_true]
set_option maxRecDepth 100000 in
set_option maxHeartbeats 2000000 in
theorem ok_sortU : FpOk Try.prog 19 s_sortU := by
  refine fp_ok (s := s_sortU) (tab := [(24, .pu s_blen), (23, .fp s_pdqU)]) hmix (TabOk.cons (e := .pu s_blen) ok_blen (TabOk.cons (e := .fp s_pdqU) ok_pdqU TabOk.nil)) Try.func19 rfl Try.results19 Try.ntmps19 (by kernel_rfl) (by kernel_rfl) len_sortU ?_
  intro args H v H1 h hargs hH
  unfold s_sortU at h
  split at h
  · rename_i x
    split at h
    · rename_i A hA
      split at h
      · rename_i hl
        simp only [Option.some.injEq, Prod.mk.injEq] at h
        obtain ⟨rfl, rfl⟩ := h
        refine ⟨by simp only [List.length_cons, List.length_nil]; decide, ?_⟩
        have xl : ∀ e, lenB (.sl e) (.c x) = some (.c (.i A.length)) := by
          intro e
          rcases vecD_inv gU_d hA with ⟨rfl, rfl⟩ | ⟨id2, rfl, ho⟩ <;> rfl
        have xa : ∀ (l : Array Operand) (ts : List Nat) (t : Nat) (tab : Tab), astep Try.prog tab (.call ⟨.builtin .len, l, (t :: ts).toArray⟩) [.c x] H = (lenA Try.prog t (.c x)).map fun v => (v, H) := by
          intro l ts t tab
          rcases vecD_inv gU_d hA with ⟨rfl, rfl⟩ | ⟨id2, rfl, ho⟩
          · exact as_len_nils
          · exact as_len_sl
        have xb : tcM [.c x] = .no := by
          rcases vecD_inv gU_d hA with ⟨rfl, rfl⟩ | ⟨id2, rfl, ho⟩ <;> rfl
        have e1 : (BitVec.ofInt 64 (A.length : Int)).toNat ≤ 12 := by rw [BitVec.toNat_ofInt]; omega
        have p1 := fun m => s_pdqU_eq (m := m) hA rfl hl
        (try simp (config := { maxSteps := 10000000 }) only [go_sem, List.reduceReplicate, BitVec.reduceOfInt, BitVec.reduceToNat, BitVec.reduceToInt, BitVec.reduceEq, BitVec.reduceLT, BitVec.reduceLE, BitVec.reduceAdd, BitVec.reduceSub, BitVec.reduceMul, BitVec.reduceUDiv, BitVec.reduceUMod, BitVec.reduceAnd, BitVec.reduceOr, BitVec.reduceXOr, BitVec.reduceNot, BitVec.reduceNeg, BitVec.reduceHShiftLeft, BitVec.reduceHShiftRight, Nat.reduceAdd, Nat.reduceMul, Nat.reduceSub, Nat.reduceBEq, Nat.reduceEqDiff, Nat.reduceLeDiff, Nat.reduceLT, Int.reduceLE, Int.reduceLT, Int.reduceAdd, Int.reduceSub, Int.reduceMul, Int.reduceNeg, Int.reduceToNat, Int.reduceEq, ↓reduceIte, reduceCtorEq, s_blen_eq, s_pdqU_eq, xa, xb, xl, e1, p1]; repeat (simp (disch := omega) only [w64_d, ipos, ineg, dpos, dneg]; try simp (config := { maxSteps := 10000000 }) only [go_sem, List.reduceReplicate, BitVec.reduceOfInt, BitVec.reduceToNat, BitVec.reduceToInt, BitVec.reduceEq, BitVec.reduceLT, BitVec.reduceLE, BitVec.reduceAdd, BitVec.reduceSub, BitVec.reduceMul, BitVec.reduceUDiv, BitVec.reduceUMod, BitVec.reduceAnd, BitVec.reduceOr, BitVec.reduceXOr, BitVec.reduceNot, BitVec.reduceNeg, BitVec.reduceHShiftLeft, BitVec.reduceHShiftRight, Nat.reduceAdd, Nat.reduceMul, Nat.reduceSub, Nat.reduceBEq, Nat.reduceEqDiff, Nat.reduceLeDiff, Nat.reduceLT, Int.reduceLE, Int.reduceLT, Int.reduceAdd, Int.reduceSub, Int.reduceMul, Int.reduceNeg, Int.reduceToNat, Int.reduceEq, ↓reduceIte, reduceCtorEq, s_blen_eq, s_pdqU_eq, xa, xb, xl, e1, p1]))
        exact fin_fp rfl (subH_refl _) (srtVU_bel hH hA) (by rw [putV_len]; exact Nat.le_refl _)
      · simp at h
    · simp at h
  · simp at h
/-! ### Compact -/
def cmpCU (A : List (BitVec 64)) : List Sc := (ddp A).map gU ++ List.replicate (A.length - (ddp A).length) (gU 0#64)
def cmpU (H : AH) (x : Sc) (A : List (BitVec 64)) : Sc × AH :=
  if (ddp A).length = A.length then (x, H)
  else match x with
    | .sl id o v _ => (.sl id o v (ddp A).length, H.set id (.vec 1 (cmpCU A)))
    | x => (x, H)
def s_cmpU (args : List AV) (H : AH) : Option (AV × AH) :=
  match args with
  | [.c x] =>
    match vecD dcU H x with
    | some A => if A.length ≤ 12 then some (.c (cmpU H x A).1, (cmpU H x A).2) else none
    | none => none
  | _ => none
theorem cmpU_len {H : AH} {x : Sc} {A : List (BitVec 64)} : (cmpU H x A).2.length = H.length := by
  unfold cmpU
  repeat' split
  all_goals simp
theorem len_cmpU (args : List AV) (H : AH) (v : AV) (H1 : AH) (h : s_cmpU args H = some (v, H1)) : H.length ≤ H1.length := by
  unfold s_cmpU at h
  repeat' split at h
  all_goals simp at h
  rw [← h.2, cmpU_len]; exact Nat.le_refl _
theorem s_cmpU_eq {H : AH} {x : Sc} {A : List (BitVec 64)} (hA : vecD dcU H x = some A) (hl : A.length ≤ 12) : s_cmpU [.c x] H = some (.c (cmpU H x A).1, (cmpU H x A).2) := by
  simp only [s_cmpU, hA, hl, if_true]
set_option maxHeartbeats 8000000 in
theorem linU : Lin ltU where
  irr x := by simp [ltU]
  tr x y z h1 h2 := by simp only [ltU, decide_eq_true_eq] at *; exact BitVec.lt_trans h1 h2
  tot x y h1 h2 := by simp only [ltU, decide_eq_false_iff_not] at *; exact BitVec.le_antisymm (BitVec.not_lt.1 h2) (BitVec.not_lt.1 h1)
theorem cmpU_sl {H : AH} {id v n : Nat} {A : List (BitVec 64)} (ho : hg H id = .vec 1 (A.map gU)) (lid : id < H.length) (hn : n = A.length) : cmpU H (.sl id 0 v n) A = (.sl id 0 v (ddp A).length, H.set id (.vec 1 (cmpCU A))) := by
  unfold cmpU
  split
  · rename_i h
    have e : cmpCU A = A.map gU := by unfold cmpCU; rw [ddp_full h, Nat.sub_self]; simp
    rw [e, set_self ho lid, h, hn]
  · rfl
end
end Go.Proofs.Ytbnfapacbfeabaa
