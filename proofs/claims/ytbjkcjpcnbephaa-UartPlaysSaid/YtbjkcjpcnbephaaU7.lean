/- Layer 17: the chapter's example; a port that isn't there: contracts. -/
import Derived.Test.YtbjkcjpcnbephaaU6
namespace Go.Proofs.Ytbjkcjpcnbephaa
open Go.Am
set_option linter.unusedSimpArgs false
set_option linter.unusedVariables false
noncomputable section

def s_usame0 (args : List AV) (H : AH) : Option AV :=
  match args with
  | [.c .nilp, .c .nilp] => some (.c (.b true))
  | [.c .nilp, .c (.p _ 0 0)] => some (.c (.b false))
  | [.c (.p _ 0 0), .c .nilp] => some (.c (.b false))
  | _ => none
theorem s_usame0_1 {H : AH} : s_usame0 [.c .nilp, .c .nilp] H = some (.c (.b true)) := rfl
theorem s_usame0_2 {id : Nat} {H : AH} : s_usame0 [.c .nilp, .c (.p id 0 0)] H = some (.c (.b false)) := rfl
theorem s_usame0_3 {id : Nat} {H : AH} : s_usame0 [.c (.p id 0 0), .c .nilp] H = some (.c (.b false)) := rfl
set_option maxRecDepth 100000 in
set_option maxHeartbeats 2000000 in
theorem ok_usame0 : FpOk Try.prog 16 (fun args H => (s_usame0 args H).map fun v => (v, H)) := by
  refine fq_ok (s := s_usame0) (tab := []) hmix TabOk.nil Try.func16 rfl Try.results16 Try.ntmps16 (by kernel_rfl) (by kernel_rfl) ?_
  intro args H v h hargs hH
  unfold s_usame0 at h
  split at h
  all_goals first
    | (simp at h; done)
    | (simp only [Option.some.injEq] at h
       subst h
       refine ⟨by simp only [List.length_cons, List.length_nil]; decide, rfl, ?_⟩
       (try simp (config := { maxSteps := 10000000 }) only [go_sem, List.reduceReplicate, BitVec.reduceOfInt, BitVec.reduceToNat, BitVec.reduceToInt, BitVec.reduceEq, BitVec.reduceLT, BitVec.reduceLE, BitVec.reduceAdd, BitVec.reduceSub, BitVec.reduceMul, BitVec.reduceUDiv, BitVec.reduceUMod, BitVec.reduceAnd, BitVec.reduceOr, BitVec.reduceXOr, BitVec.reduceNot, BitVec.reduceNeg, BitVec.reduceHShiftLeft, BitVec.reduceHShiftRight, Nat.reduceAdd, Nat.reduceMul, Nat.reduceSub, Nat.reduceBEq, Nat.reduceEqDiff, Nat.reduceLeDiff, Nat.reduceLT, Int.reduceLE, Int.reduceLT, Int.reduceAdd, Int.reduceSub, Int.reduceMul, Int.reduceNeg, Int.reduceToNat, Int.reduceEq, ↓reduceIte, reduceCtorEq]; repeat (simp (disch := omega) only [w64_d, ipos, ineg, dpos, dneg]; try simp (config := { maxSteps := 10000000 }) only [go_sem, List.reduceReplicate, BitVec.reduceOfInt, BitVec.reduceToNat, BitVec.reduceToInt, BitVec.reduceEq, BitVec.reduceLT, BitVec.reduceLE, BitVec.reduceAdd, BitVec.reduceSub, BitVec.reduceMul, BitVec.reduceUDiv, BitVec.reduceUMod, BitVec.reduceAnd, BitVec.reduceOr, BitVec.reduceXOr, BitVec.reduceNot, BitVec.reduceNeg, BitVec.reduceHShiftLeft, BitVec.reduceHShiftRight, Nat.reduceAdd, Nat.reduceMul, Nat.reduceSub, Nat.reduceBEq, Nat.reduceEqDiff, Nat.reduceLeDiff, Nat.reduceLT, Int.reduceLE, Int.reduceLT, Int.reduceAdd, Int.reduceSub, Int.reduceMul, Int.reduceNeg, Int.reduceToNat, Int.reduceEq, ↓reduceIte, reduceCtorEq]))
       first | exact subH_refl _ | exact ⟨rfl, subH_refl _⟩)
def s_uclo0 (args : List AV) : Option AV :=
  match args with
  | [.c .nilp] => some (.c .nilp)
  | _ => none
theorem s_uclo0_eq : s_uclo0 [.c .nilp] = some (.c .nilp) := rfl
set_option maxRecDepth 100000 in
set_option maxHeartbeats 2000000 in
theorem ok_uclo0 : PuOk Try.prog 15 s_uclo0 := by
  refine pu_ok (tab := []) hmix TabOk.nil Try.func15 rfl Try.results15 Try.ntmps15 (by kernel_rfl) (by kernel_rfl) ?_
  intro args v h
  unfold s_uclo0 at h
  split at h
  · simp only [Option.some.injEq] at h; subst h
    refine ⟨by simp only [List.length_cons, List.length_nil]; decide, rfl, rfl, ?_⟩
    (try simp (config := { maxSteps := 10000000 }) only [go_sem, List.reduceReplicate, BitVec.reduceOfInt, BitVec.reduceToNat, BitVec.reduceToInt, BitVec.reduceEq, BitVec.reduceLT, BitVec.reduceLE, BitVec.reduceAdd, BitVec.reduceSub, BitVec.reduceMul, BitVec.reduceUDiv, BitVec.reduceUMod, BitVec.reduceAnd, BitVec.reduceOr, BitVec.reduceXOr, BitVec.reduceNot, BitVec.reduceNeg, BitVec.reduceHShiftLeft, BitVec.reduceHShiftRight, Nat.reduceAdd, Nat.reduceMul, Nat.reduceSub, Nat.reduceBEq, Nat.reduceEqDiff, Nat.reduceLeDiff, Nat.reduceLT, Int.reduceLE, Int.reduceLT, Int.reduceAdd, Int.reduceSub, Int.reduceMul, Int.reduceNeg, Int.reduceToNat, Int.reduceEq, ↓reduceIte, reduceCtorEq]; repeat (simp (disch := omega) only [w64_d, ipos, ineg, dpos, dneg]; try simp (config := { maxSteps := 10000000 }) only [go_sem, List.reduceReplicate, BitVec.reduceOfInt, BitVec.reduceToNat, BitVec.reduceToInt, BitVec.reduceEq, BitVec.reduceLT, BitVec.reduceLE, BitVec.reduceAdd, BitVec.reduceSub, BitVec.reduceMul, BitVec.reduceUDiv, BitVec.reduceUMod, BitVec.reduceAnd, BitVec.reduceOr, BitVec.reduceXOr, BitVec.reduceNot, BitVec.reduceNeg, BitVec.reduceHShiftLeft, BitVec.reduceHShiftRight, Nat.reduceAdd, Nat.reduceMul, Nat.reduceSub, Nat.reduceBEq, Nat.reduceEqDiff, Nat.reduceLeDiff, Nat.reduceLT, Int.reduceLE, Int.reduceLT, Int.reduceAdd, Int.reduceSub, Int.reduceMul, Int.reduceNeg, Int.reduceToNat, Int.reduceEq, ↓reduceIte, reduceCtorEq]))
  · simp at h
/-- the example's steps -/
def exA : Po := { po0 with x := .sl 2 0 1 1 }
def exB : Po := { po0 with x := .sl 3 0 0 0 }
def exC : Po := { po0 with x := .sl 3 0 0 0, e := 2, em := true }
def exD : Po := { po0 with x := .sl 3 0 0 0, e := 2 }
theorem ex1 : s_unew [] [] = some (.c (.p 0 0 0), [.own (poC po0)]) := rfl
theorem ex2 : s_uinput [.c (.p 0 0 0), .c (.k .u8 65)] [.own (poC po0)] = some (.c (.b true), [.own (poC exA), .dead, .vec 1 [.k .u8 65]]) := rfl
theorem ex3 : s_uread [.c (.p 0 0 0), .c (.u 5#64)] [.own (poC exA), .dead, .vec 1 [.k .u8 65]] = some (.t [.c (.k .u8 97), .c (.b true)], [.own (poC exA), .dead, .vec 1 [.k .u8 65]]) := rfl
theorem ex4 : s_uread [.c (.p 0 0 0), .c (.u 0#64)] [.own (poC exA), .dead, .vec 1 [.k .u8 65]] = some (.t [.c (.k .u8 65), .c (.b true)], [.own (poC exB), .dead, .vec 1 [.k .u8 65], .vec 1 []]) := rfl
theorem ex5 : s_uwrite [.c (.p 0 0 0), .c (.u 1#64), .c (.k .u8 2)] [.own (poC exB), .dead, .vec 1 [.k .u8 65], .vec 1 []] = some (.c (.b true), [.own (poC exC), .dead, .vec 1 [.k .u8 65], .vec 1 []]) := rfl
theorem ex6 : s_uline [.c (.p 0 0 0)] [.own (poC exC), .dead, .vec 1 [.k .u8 65], .vec 1 []] = some (.c (.b true)) := rfl
theorem ex7 : s_uread [.c (.p 0 0 0), .c (.u 2#64)] [.own (poC exC), .dead, .vec 1 [.k .u8 65], .vec 1 []] = some (.t [.c (.k .u8 2), .c (.b true)], [.own (poC exD), .dead, .vec 1 [.k .u8 65], .vec 1 []]) := rfl
theorem ex8 : s_uline [.c (.p 0 0 0)] [.own (poC exD), .dead, .vec 1 [.k .u8 65], .vec 1 []] = some (.c (.b false)) := rfl
def s_live17 (args : List AV) : Option AV :=
  match args with
  | [] => some (.c (.b true))
  | _ => none
theorem s_live17_eq : s_live17 [] = some (.c (.b true)) := rfl
set_option maxRecDepth 100000 in
set_option maxHeartbeats 2000000 in
theorem ok_live17 : PuOk Try.prog 6 s_live17 := by
  refine pu_ok (tab := [(7, .fp s_unew), (9, .fp s_uinput), (10, .fp s_uread), (8, .fp s_uwrite), (14, .fq s_uline)]) hmix (TabOk.cons (e := .fp s_unew) ok_unew (TabOk.cons (e := .fp s_uinput) ok_uinput (TabOk.cons (e := .fp s_uread) ok_uread (TabOk.cons (e := .fp s_uwrite) ok_uwrite (TabOk.cons (e := .fq s_uline) ok_uline TabOk.nil))))) Try.func6 rfl Try.results6 Try.ntmps6 (by kernel_rfl) (by kernel_rfl) ?_
  intro args v h
  unfold s_live17 at h
  split at h
  · simp only [Option.some.injEq] at h; subst h
    refine ⟨by simp only [List.length_cons, List.length_nil]; decide, rfl, rfl, ?_⟩
    (try simp (config := { maxSteps := 10000000 }) only [go_sem, List.reduceReplicate, BitVec.reduceOfInt, BitVec.reduceToNat, BitVec.reduceToInt, BitVec.reduceEq, BitVec.reduceLT, BitVec.reduceLE, BitVec.reduceAdd, BitVec.reduceSub, BitVec.reduceMul, BitVec.reduceUDiv, BitVec.reduceUMod, BitVec.reduceAnd, BitVec.reduceOr, BitVec.reduceXOr, BitVec.reduceNot, BitVec.reduceNeg, BitVec.reduceHShiftLeft, BitVec.reduceHShiftRight, Nat.reduceAdd, Nat.reduceMul, Nat.reduceSub, Nat.reduceBEq, Nat.reduceEqDiff, Nat.reduceLeDiff, Nat.reduceLT, Int.reduceLE, Int.reduceLT, Int.reduceAdd, Int.reduceSub, Int.reduceMul, Int.reduceNeg, Int.reduceToNat, Int.reduceEq, ↓reduceIte, reduceCtorEq, ex1, ex2, ex3, ex4, ex5, ex6, ex7, ex8]; repeat (simp (disch := omega) only [w64_d, ipos, ineg, dpos, dneg]; try simp (config := { maxSteps := 10000000 }) only [go_sem, List.reduceReplicate, BitVec.reduceOfInt, BitVec.reduceToNat, BitVec.reduceToInt, BitVec.reduceEq, BitVec.reduceLT, BitVec.reduceLE, BitVec.reduceAdd, BitVec.reduceSub, BitVec.reduceMul, BitVec.reduceUDiv, BitVec.reduceUMod, BitVec.reduceAnd, BitVec.reduceOr, BitVec.reduceXOr, BitVec.reduceNot, BitVec.reduceNeg, BitVec.reduceHShiftLeft, BitVec.reduceHShiftRight, Nat.reduceAdd, Nat.reduceMul, Nat.reduceSub, Nat.reduceBEq, Nat.reduceEqDiff, Nat.reduceLeDiff, Nat.reduceLT, Int.reduceLE, Int.reduceLT, Int.reduceAdd, Int.reduceSub, Int.reduceMul, Int.reduceNeg, Int.reduceToNat, Int.reduceEq, ↓reduceIte, reduceCtorEq, ex1, ex2, ex3, ex4, ex5, ex6, ex7, ex8]))
  · simp at h
theorem un1 {off : BitVec 64} {H : AH} : s_uread [.c .nilp, .c (.u off)] H = some (.t [.c (.k .u8 0), .c (.b false)], H) := rfl
theorem un2 {off : BitVec 64} {b : Int} {H : AH} : s_uwrite [.c .nilp, .c (.u off), .c (.k .u8 b)] H = some (.c (.b false), H) := rfl
theorem un3 {b : Int} {H : AH} : s_uinput [.c .nilp, .c (.k .u8 b)] H = some (.c (.b false), H) := rfl
theorem un4 {H : AH} : s_uline [.c .nilp] H = some (.c (.b false)) := rfl
theorem un5 {H : AH} : s_uwaiting [.c .nilp] H = some (.c .nils, H) := rfl
theorem un6 {H : AH} : s_uout [.c .nilp] H = some (.c .nils, H) := rfl
theorem un7 {H : AH} : s_unew [] H = some (.c (.p H.length 0 0), H ++ [.own (poC po0)]) := rfl
def s_unone (args : List AV) : Option AV :=
  match args with
  | [.c (.u off), .c (.k .u8 b)] => some (.c (.b true))
  | _ => none
theorem s_unone_eq {off b} : s_unone [.c (.u off), .c (.k .u8 b)] = some (.c (.b true)) := rfl
set_option maxRecDepth 100000 in
set_option maxHeartbeats 2000000 in
theorem ok_unone : PuOk Try.prog 4 s_unone := by
  refine pu_ok (tab := [(10, .fp s_uread), (8, .fp s_uwrite), (9, .fp s_uinput), (14, .fq s_uline), (11, .fp s_uwaiting), (13, .fp s_uout), (7, .fp s_unew), (15, .pu s_uclo0), (16, .fq s_usame0), (6, .pu s_live17)]) hmix (TabOk.cons (e := .fp s_uread) ok_uread (TabOk.cons (e := .fp s_uwrite) ok_uwrite (TabOk.cons (e := .fp s_uinput) ok_uinput (TabOk.cons (e := .fq s_uline) ok_uline (TabOk.cons (e := .fp s_uwaiting) ok_uwaiting (TabOk.cons (e := .fp s_uout) ok_uout (TabOk.cons (e := .fp s_unew) ok_unew (TabOk.cons (e := .pu s_uclo0) ok_uclo0 (TabOk.cons (e := .fq s_usame0) ok_usame0 (TabOk.cons (e := .pu s_live17) ok_live17 TabOk.nil)))))))))) Try.func4 rfl Try.results4 Try.ntmps4 (by kernel_rfl) (by kernel_rfl) ?_
  intro args v h
  unfold s_unone at h
  split at h
  · rename_i off b
    simp only [Option.some.injEq] at h; subst h
    refine ⟨by simp only [List.length_cons, List.length_nil]; decide, rfl, rfl, ?_⟩
    (try simp (config := { maxSteps := 10000000 }) only [go_sem, List.reduceReplicate, BitVec.reduceOfInt, BitVec.reduceToNat, BitVec.reduceToInt, BitVec.reduceEq, BitVec.reduceLT, BitVec.reduceLE, BitVec.reduceAdd, BitVec.reduceSub, BitVec.reduceMul, BitVec.reduceUDiv, BitVec.reduceUMod, BitVec.reduceAnd, BitVec.reduceOr, BitVec.reduceXOr, BitVec.reduceNot, BitVec.reduceNeg, BitVec.reduceHShiftLeft, BitVec.reduceHShiftRight, Nat.reduceAdd, Nat.reduceMul, Nat.reduceSub, Nat.reduceBEq, Nat.reduceEqDiff, Nat.reduceLeDiff, Nat.reduceLT, Int.reduceLE, Int.reduceLT, Int.reduceAdd, Int.reduceSub, Int.reduceMul, Int.reduceNeg, Int.reduceToNat, Int.reduceEq, ↓reduceIte, reduceCtorEq, un1, un2, un3, un4, un5, un6, un7, s_uclo0_eq, s_usame0_1, s_usame0_2, s_usame0_3, s_live17_eq]; repeat (simp (disch := omega) only [w64_d, ipos, ineg, dpos, dneg]; try simp (config := { maxSteps := 10000000 }) only [go_sem, List.reduceReplicate, BitVec.reduceOfInt, BitVec.reduceToNat, BitVec.reduceToInt, BitVec.reduceEq, BitVec.reduceLT, BitVec.reduceLE, BitVec.reduceAdd, BitVec.reduceSub, BitVec.reduceMul, BitVec.reduceUDiv, BitVec.reduceUMod, BitVec.reduceAnd, BitVec.reduceOr, BitVec.reduceXOr, BitVec.reduceNot, BitVec.reduceNeg, BitVec.reduceHShiftLeft, BitVec.reduceHShiftRight, Nat.reduceAdd, Nat.reduceMul, Nat.reduceSub, Nat.reduceBEq, Nat.reduceEqDiff, Nat.reduceLeDiff, Nat.reduceLT, Int.reduceLE, Int.reduceLT, Int.reduceAdd, Int.reduceSub, Int.reduceMul, Int.reduceNeg, Int.reduceToNat, Int.reduceEq, ↓reduceIte, reduceCtorEq, un1, un2, un3, un4, un5, un6, un7, s_uclo0_eq, s_usame0_1, s_usame0_2, s_usame0_3, s_live17_eq]))
  · simp at h
theorem fk_8 {s : Sc} (h : FitK s (.n .u8)) : ∃ x, s = .k .u8 x ∧ 0 ≤ x ∧ x ≤ 255 := by
  cases s with
  | k kd x =>
    simp only [FitK] at h
    obtain ⟨rfl, _, a, b⟩ := h
    exact ⟨x, rfl, a, b⟩
  | _ => simp [FitK] at h
theorem sig_unone (avs : List AV) (H : AH) (h : SigA [.fl false [.n .u64], .fl false [.n .u8]] avs H) : (fun a (_ : AH) => s_unone a) avs H = some (.c (.b true)) := by
  obtain ⟨s, r, rfl, k, h1⟩ := sig_c h
  obtain ⟨x, rfl⟩ := fk_u k
  obtain ⟨s, r, rfl, k, h2⟩ := sig_c h1
  obtain ⟨y, rfl, _, _⟩ := fk_8 k
  obtain rfl := sig_nil h2
  exact s_unone_eq
end
end Go.Proofs.Ytbjkcjpcnbephaa
