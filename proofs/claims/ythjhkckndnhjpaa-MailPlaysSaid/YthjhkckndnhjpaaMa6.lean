/- Layer 29: mail: Box, Slot: contracts. -/
import Derived.Test.YthjhkckndnhjpaaMa5
namespace Go.Proofs.Ythjhkckndnhjpaa
open Go.Am
set_option linter.unusedSimpArgs false
set_option linter.unusedVariables false
noncomputable section

def boxI (n hart k h : Int) (rs : Bool) (i : Int) : Int := if mlMay n hart k h rs i = true then (if k = 12 then hart else h) else 0
def s_mbox (args : List AV) (H : AH) : Option AV :=
  match args with
  | [.c (.p id 0 0), .c (.i hart), .g [.i k, .u _, .u _, .i _, .i _, .i _, .u _, .u _, .b _, .i h, .b rs, .b _, .b _, .u _, .i i, .i _, .u _, .i _, .u _]] =>
    match mlD (hg H id) with
    | some (n, _) => some (.t [.c (.i (boxI n hart k h rs i)), .c (.b (mlMay n hart k h rs i))])
    | none => none
  | _ => none
theorem s_mbox_eq {id : Nat} {n hart k h i c z o e1 e3 : Int} {ad nx da ol va e2 e4 : BitVec 64} {li rs rv ra : Bool} {B : List Row} {H : AH} (e : hg H id = .own (mlC n B)) (hB : B.length = 8) :
    s_mbox [.c (.p id 0 0), .c (.i hart), .g [.i k, .u ad, .u nx, .i c, .i z, .i o, .u da, .u ol, .b li, .i h, .b rs, .b rv, .b ra, .u va, .i i, .i e1, .u e2, .i e3, .u e4]] H = some (.t [.c (.i (boxI n hart k h rs i)), .c (.b (mlMay n hart k h rs i))]) := by
  simp only [s_mbox, e, mlD_of hB]
set_option maxRecDepth 100000 in
set_option maxHeartbeats 2000000 in
theorem ok_mbox : FpOk Try.prog 11 (fun args H => (s_mbox args H).map fun v => (v, H)) := by
  refine fq_ok (s := s_mbox) (tab := [(12, .fq s_mmay)]) hmix (TabOk.cons (e := .fq s_mmay) ok_mmay TabOk.nil) Try.func11 rfl Try.results11 Try.ntmps11 (by kernel_rfl) (by kernel_rfl) ?_
  intro args H v h hargs hH
  unfold s_mbox at h
  split at h
  · rename_i id hart k ad nx c z o da ol li h' rs rv ra va i e1 e2 e3 e4
    split at h
    · rename_i n B hm
      simp only [Option.some.injEq] at h
      subst h
      obtain ⟨e, hB⟩ := mlD_inv hm
      have lid : id < H.length := hg_lt (by rw [e]; rfl)
      have q : ∀ X, s_mmay [.c (.p id 0 0), .c (.i hart), .g [.i k, .u ad, .u nx, .i c, .i z, .i o, .u da, .u ol, .b li, .i h', .b rs, .b rv, .b ra, .u va, .i i, .i e1, .u e2, .i e3, .u e4]] (H ++ X) = some (.c (.b (mlMay n hart k h' rs i))) := fun X => s_mmay_eq (by rw [hg_lt' lid]; exact e) hB
      refine ⟨by simp only [List.length_cons, List.length_nil]; decide, rfl, ?_⟩
      cases hmm : mlMay n hart k h' rs i
      · (try simp (config := { maxSteps := 10000000 }) only [go_sem, List.reduceReplicate, BitVec.reduceOfInt, BitVec.reduceToNat, BitVec.reduceToInt, BitVec.reduceEq, BitVec.reduceLT, BitVec.reduceLE, BitVec.reduceAdd, BitVec.reduceSub, BitVec.reduceMul, BitVec.reduceUDiv, BitVec.reduceUMod, BitVec.reduceAnd, BitVec.reduceOr, BitVec.reduceXOr, BitVec.reduceNot, BitVec.reduceNeg, BitVec.reduceHShiftLeft, BitVec.reduceHShiftRight, Nat.reduceAdd, Nat.reduceMul, Nat.reduceSub, Nat.reduceBEq, Nat.reduceEqDiff, Nat.reduceLeDiff, Nat.reduceLT, Int.reduceLE, Int.reduceLT, Int.reduceAdd, Int.reduceSub, Int.reduceMul, Int.reduceNeg, Int.reduceToNat, Int.reduceEq, ↓reduceIte, reduceCtorEq, q, hmm, boxI]; repeat (simp (disch := omega) only [w64_d, ipos, ineg, dpos, dneg]; try simp (config := { maxSteps := 10000000 }) only [go_sem, List.reduceReplicate, BitVec.reduceOfInt, BitVec.reduceToNat, BitVec.reduceToInt, BitVec.reduceEq, BitVec.reduceLT, BitVec.reduceLE, BitVec.reduceAdd, BitVec.reduceSub, BitVec.reduceMul, BitVec.reduceUDiv, BitVec.reduceUMod, BitVec.reduceAnd, BitVec.reduceOr, BitVec.reduceXOr, BitVec.reduceNot, BitVec.reduceNeg, BitVec.reduceHShiftLeft, BitVec.reduceHShiftRight, Nat.reduceAdd, Nat.reduceMul, Nat.reduceSub, Nat.reduceBEq, Nat.reduceEqDiff, Nat.reduceLeDiff, Nat.reduceLT, Int.reduceLE, Int.reduceLT, Int.reduceAdd, Int.reduceSub, Int.reduceMul, Int.reduceNeg, Int.reduceToNat, Int.reduceEq, ↓reduceIte, reduceCtorEq, q, hmm, boxI]))
        exact subH_app _ _
      by_cases k1 : k = 12
      · subst k1
        (try simp (config := { maxSteps := 10000000 }) only [go_sem, List.reduceReplicate, BitVec.reduceOfInt, BitVec.reduceToNat, BitVec.reduceToInt, BitVec.reduceEq, BitVec.reduceLT, BitVec.reduceLE, BitVec.reduceAdd, BitVec.reduceSub, BitVec.reduceMul, BitVec.reduceUDiv, BitVec.reduceUMod, BitVec.reduceAnd, BitVec.reduceOr, BitVec.reduceXOr, BitVec.reduceNot, BitVec.reduceNeg, BitVec.reduceHShiftLeft, BitVec.reduceHShiftRight, Nat.reduceAdd, Nat.reduceMul, Nat.reduceSub, Nat.reduceBEq, Nat.reduceEqDiff, Nat.reduceLeDiff, Nat.reduceLT, Int.reduceLE, Int.reduceLT, Int.reduceAdd, Int.reduceSub, Int.reduceMul, Int.reduceNeg, Int.reduceToNat, Int.reduceEq, ↓reduceIte, reduceCtorEq, q, hmm, boxI]; repeat (simp (disch := omega) only [w64_d, ipos, ineg, dpos, dneg]; try simp (config := { maxSteps := 10000000 }) only [go_sem, List.reduceReplicate, BitVec.reduceOfInt, BitVec.reduceToNat, BitVec.reduceToInt, BitVec.reduceEq, BitVec.reduceLT, BitVec.reduceLE, BitVec.reduceAdd, BitVec.reduceSub, BitVec.reduceMul, BitVec.reduceUDiv, BitVec.reduceUMod, BitVec.reduceAnd, BitVec.reduceOr, BitVec.reduceXOr, BitVec.reduceNot, BitVec.reduceNeg, BitVec.reduceHShiftLeft, BitVec.reduceHShiftRight, Nat.reduceAdd, Nat.reduceMul, Nat.reduceSub, Nat.reduceBEq, Nat.reduceEqDiff, Nat.reduceLeDiff, Nat.reduceLT, Int.reduceLE, Int.reduceLT, Int.reduceAdd, Int.reduceSub, Int.reduceMul, Int.reduceNeg, Int.reduceToNat, Int.reduceEq, ↓reduceIte, reduceCtorEq, q, hmm, boxI]))
        exact subH_app _ _
      · (try simp (config := { maxSteps := 10000000 }) only [go_sem, List.reduceReplicate, BitVec.reduceOfInt, BitVec.reduceToNat, BitVec.reduceToInt, BitVec.reduceEq, BitVec.reduceLT, BitVec.reduceLE, BitVec.reduceAdd, BitVec.reduceSub, BitVec.reduceMul, BitVec.reduceUDiv, BitVec.reduceUMod, BitVec.reduceAnd, BitVec.reduceOr, BitVec.reduceXOr, BitVec.reduceNot, BitVec.reduceNeg, BitVec.reduceHShiftLeft, BitVec.reduceHShiftRight, Nat.reduceAdd, Nat.reduceMul, Nat.reduceSub, Nat.reduceBEq, Nat.reduceEqDiff, Nat.reduceLeDiff, Nat.reduceLT, Int.reduceLE, Int.reduceLT, Int.reduceAdd, Int.reduceSub, Int.reduceMul, Int.reduceNeg, Int.reduceToNat, Int.reduceEq, ↓reduceIte, reduceCtorEq, q, hmm, boxI, k1]; repeat (simp (disch := omega) only [w64_d, ipos, ineg, dpos, dneg]; try simp (config := { maxSteps := 10000000 }) only [go_sem, List.reduceReplicate, BitVec.reduceOfInt, BitVec.reduceToNat, BitVec.reduceToInt, BitVec.reduceEq, BitVec.reduceLT, BitVec.reduceLE, BitVec.reduceAdd, BitVec.reduceSub, BitVec.reduceMul, BitVec.reduceUDiv, BitVec.reduceUMod, BitVec.reduceAnd, BitVec.reduceOr, BitVec.reduceXOr, BitVec.reduceNot, BitVec.reduceNeg, BitVec.reduceHShiftLeft, BitVec.reduceHShiftRight, Nat.reduceAdd, Nat.reduceMul, Nat.reduceSub, Nat.reduceBEq, Nat.reduceEqDiff, Nat.reduceLeDiff, Nat.reduceLT, Int.reduceLE, Int.reduceLT, Int.reduceAdd, Int.reduceSub, Int.reduceMul, Int.reduceNeg, Int.reduceToNat, Int.reduceEq, ↓reduceIte, reduceCtorEq, q, hmm, boxI, k1]))
        exact subH_app _ _
    · simp at h
  · simp at h
def slotV (n : Int) (B : List Row) (a b : Int) : Rq := if inH n a = true ∧ inH n b = true then slotR B b.toNat a.toNat else rq0
def s_mslot (args : List AV) (H : AH) : Option AV :=
  match args with
  | [.c (.p id 0 0), .c (.i a), .c (.i b)] =>
    match mlD (hg H id) with
    | some (n, B) => if n ≤ 8 then some (.g (encR (slotV n B a b))) else none
    | none => none
  | _ => none
theorem s_mslot_eq {id : Nat} {n a b : Int} {B : List Row} {H : AH} (e : hg H id = .own (mlC n B)) (hB : B.length = 8) (hn : n ≤ 8) : s_mslot [.c (.p id 0 0), .c (.i a), .c (.i b)] H = some (.g (encR (slotV n B a b))) := by
  simp only [s_mslot, e, mlD_of hB, hn, if_true]
set_option maxRecDepth 100000 in
set_option maxHeartbeats 2000000 in
theorem ok_mslot : FpOk Try.prog 20 (fun args H => (s_mslot args H).map fun v => (v, H)) := by
  refine fq_ok (s := s_mslot) (tab := [(18, .fq s_min29)]) hmix (TabOk.cons (e := .fq s_min29) ok_min29 TabOk.nil) Try.func20 rfl Try.results20 Try.ntmps20 (by kernel_rfl) (by kernel_rfl) ?_
  intro args H v h hargs hH
  unfold s_mslot at h
  split at h
  · rename_i id a b
    split at h
    · rename_i n B hm
      split at h
      · rename_i hn
        simp only [Option.some.injEq] at h
        subst h
        obtain ⟨e, hB⟩ := mlD_inv hm
        have lid : id < H.length := hg_lt (by rw [e]; rfl)
        have q : ∀ X x, s_min29 [.c (.p id 0 0), .c (.i x)] (H ++ X) = some (.c (.b (inH n x))) := fun X x => s_min29_eq (by rw [hg_lt' lid]; exact e) hB
        have gx : ∀ X, hg (H ++ X) id = .own (mlC n B) := fun X => by rw [hg_lt' lid]; exact e
        refine ⟨by simp only [List.length_cons, List.length_nil]; decide, rfl, ?_⟩
        have l0 := mlC_len n hB
        have er : encR rq0 = [.b false, .b false, .b false, .u 0#64, .i 0] := rfl
        cases ha : inH n a
        · have ev : slotV n B a b = rq0 := by unfold slotV; rw [if_neg (by simp [ha])]
          rw [ev]
          (try simp (config := { maxSteps := 10000000 }) only [go_sem, List.reduceReplicate, BitVec.reduceOfInt, BitVec.reduceToNat, BitVec.reduceToInt, BitVec.reduceEq, BitVec.reduceLT, BitVec.reduceLE, BitVec.reduceAdd, BitVec.reduceSub, BitVec.reduceMul, BitVec.reduceUDiv, BitVec.reduceUMod, BitVec.reduceAnd, BitVec.reduceOr, BitVec.reduceXOr, BitVec.reduceNot, BitVec.reduceNeg, BitVec.reduceHShiftLeft, BitVec.reduceHShiftRight, Nat.reduceAdd, Nat.reduceMul, Nat.reduceSub, Nat.reduceBEq, Nat.reduceEqDiff, Nat.reduceLeDiff, Nat.reduceLT, Int.reduceLE, Int.reduceLT, Int.reduceAdd, Int.reduceSub, Int.reduceMul, Int.reduceNeg, Int.reduceToNat, Int.reduceEq, ↓reduceIte, reduceCtorEq, q, ha, er]; repeat (simp (disch := omega) only [w64_d, ipos, ineg, dpos, dneg]; try simp (config := { maxSteps := 10000000 }) only [go_sem, List.reduceReplicate, BitVec.reduceOfInt, BitVec.reduceToNat, BitVec.reduceToInt, BitVec.reduceEq, BitVec.reduceLT, BitVec.reduceLE, BitVec.reduceAdd, BitVec.reduceSub, BitVec.reduceMul, BitVec.reduceUDiv, BitVec.reduceUMod, BitVec.reduceAnd, BitVec.reduceOr, BitVec.reduceXOr, BitVec.reduceNot, BitVec.reduceNeg, BitVec.reduceHShiftLeft, BitVec.reduceHShiftRight, Nat.reduceAdd, Nat.reduceMul, Nat.reduceSub, Nat.reduceBEq, Nat.reduceEqDiff, Nat.reduceLeDiff, Nat.reduceLT, Int.reduceLE, Int.reduceLT, Int.reduceAdd, Int.reduceSub, Int.reduceMul, Int.reduceNeg, Int.reduceToNat, Int.reduceEq, ↓reduceIte, reduceCtorEq, q, ha, er]))
          exact subH_app _ _
        cases hb : inH n b
        · have ev : slotV n B a b = rq0 := by unfold slotV; rw [if_neg (by simp [hb])]
          rw [ev]
          (try simp (config := { maxSteps := 10000000 }) only [go_sem, List.reduceReplicate, BitVec.reduceOfInt, BitVec.reduceToNat, BitVec.reduceToInt, BitVec.reduceEq, BitVec.reduceLT, BitVec.reduceLE, BitVec.reduceAdd, BitVec.reduceSub, BitVec.reduceMul, BitVec.reduceUDiv, BitVec.reduceUMod, BitVec.reduceAnd, BitVec.reduceOr, BitVec.reduceXOr, BitVec.reduceNot, BitVec.reduceNeg, BitVec.reduceHShiftLeft, BitVec.reduceHShiftRight, Nat.reduceAdd, Nat.reduceMul, Nat.reduceSub, Nat.reduceBEq, Nat.reduceEqDiff, Nat.reduceLeDiff, Nat.reduceLT, Int.reduceLE, Int.reduceLT, Int.reduceAdd, Int.reduceSub, Int.reduceMul, Int.reduceNeg, Int.reduceToNat, Int.reduceEq, ↓reduceIte, reduceCtorEq, q, ha, hb, er]; repeat (simp (disch := omega) only [w64_d, ipos, ineg, dpos, dneg]; try simp (config := { maxSteps := 10000000 }) only [go_sem, List.reduceReplicate, BitVec.reduceOfInt, BitVec.reduceToNat, BitVec.reduceToInt, BitVec.reduceEq, BitVec.reduceLT, BitVec.reduceLE, BitVec.reduceAdd, BitVec.reduceSub, BitVec.reduceMul, BitVec.reduceUDiv, BitVec.reduceUMod, BitVec.reduceAnd, BitVec.reduceOr, BitVec.reduceXOr, BitVec.reduceNot, BitVec.reduceNeg, BitVec.reduceHShiftLeft, BitVec.reduceHShiftRight, Nat.reduceAdd, Nat.reduceMul, Nat.reduceSub, Nat.reduceBEq, Nat.reduceEqDiff, Nat.reduceLeDiff, Nat.reduceLT, Int.reduceLE, Int.reduceLT, Int.reduceAdd, Int.reduceSub, Int.reduceMul, Int.reduceNeg, Int.reduceToNat, Int.reduceEq, ↓reduceIte, reduceCtorEq, q, ha, hb, er]))
          exact subH_app _ _
        have ev : slotV n B a b = slotR B b.toNat a.toNat := by unfold slotV; rw [if_pos ⟨ha, hb⟩]
        rw [ev]
        have ha' := ha
        have hb' := hb
        simp only [inH, Bool.and_eq_true, decide_eq_true_eq] at ha' hb'
        obtain ⟨f, rfl⟩ := Int.eq_ofNat_of_zero_le ha'.1
        obtain ⟨t, rfl⟩ := Int.eq_ofNat_of_zero_le hb'.1
        have hf : f < 8 := by omega
        have ht : t < 8 := by omega
        have nf : (0 : Int) ≤ (f : Int) := by omega
        have nf8 : (f : Int) < 8 := by omega
        have nt : (0 : Int) ≤ (t : Int) := by omega
        have nt8 : (t : Int) < 8 := by omega
        have ng7 : 1 + t * 40 + f * 5 + 5 ≤ 321 := by omega
        have g1 := slot_rd (n := n) hB ht hf
        have g6 : ∀ m, (encR m).all Sc.one = true := fun m => rfl
        have g7 : ∀ m, (encR m).take 5 = encR m := fun m => rfl
        simp only [Int.toNat_natCast]
        (try simp (config := { maxSteps := 10000000 }) only [go_sem, List.reduceReplicate, BitVec.reduceOfInt, BitVec.reduceToNat, BitVec.reduceToInt, BitVec.reduceEq, BitVec.reduceLT, BitVec.reduceLE, BitVec.reduceAdd, BitVec.reduceSub, BitVec.reduceMul, BitVec.reduceUDiv, BitVec.reduceUMod, BitVec.reduceAnd, BitVec.reduceOr, BitVec.reduceXOr, BitVec.reduceNot, BitVec.reduceNeg, BitVec.reduceHShiftLeft, BitVec.reduceHShiftRight, Nat.reduceAdd, Nat.reduceMul, Nat.reduceSub, Nat.reduceBEq, Nat.reduceEqDiff, Nat.reduceLeDiff, Nat.reduceLT, Int.reduceLE, Int.reduceLT, Int.reduceAdd, Int.reduceSub, Int.reduceMul, Int.reduceNeg, Int.reduceToNat, Int.reduceEq, ↓reduceIte, reduceCtorEq, q, gx, l0, ha, hb, nf, nf8, nt, nt8, ng7, g1, g6, g7, encR_l]; repeat (simp (disch := omega) only [w64_d, ipos, ineg, dpos, dneg]; try simp (config := { maxSteps := 10000000 }) only [go_sem, List.reduceReplicate, BitVec.reduceOfInt, BitVec.reduceToNat, BitVec.reduceToInt, BitVec.reduceEq, BitVec.reduceLT, BitVec.reduceLE, BitVec.reduceAdd, BitVec.reduceSub, BitVec.reduceMul, BitVec.reduceUDiv, BitVec.reduceUMod, BitVec.reduceAnd, BitVec.reduceOr, BitVec.reduceXOr, BitVec.reduceNot, BitVec.reduceNeg, BitVec.reduceHShiftLeft, BitVec.reduceHShiftRight, Nat.reduceAdd, Nat.reduceMul, Nat.reduceSub, Nat.reduceBEq, Nat.reduceEqDiff, Nat.reduceLeDiff, Nat.reduceLT, Int.reduceLE, Int.reduceLT, Int.reduceAdd, Int.reduceSub, Int.reduceMul, Int.reduceNeg, Int.reduceToNat, Int.reduceEq, ↓reduceIte, reduceCtorEq, q, gx, l0, ha, hb, nf, nf8, nt, nt8, ng7, g1, g6, g7, encR_l]))
        exact subH_app _ _
      · simp at h
    · simp at h
  · simp at h

end
end Go.Proofs.Ythjhkckndnhjpaa
