/- Layer 29: the reference's Do: contract. -/
import Derived.Test.YthjhkckndnhjpaaMa4
namespace Go.Proofs.Ythjhkckndnhjpaa
open Go.Am
set_option linter.unusedSimpArgs false
set_option linter.unusedVariables false
noncomputable section

def rowSet (r : Row) (i : Nat) (q : Rq) : Row := ⟨r.1.set i q, by rw [List.length_set]; exact r.2⟩
theorem ansC_l (d : BitVec 64) (g : Bool) (r : Row) : (ansC d g r).length = 42 := by unfold ansC; rw [List.length_cons, List.length_cons, rowC_l]
theorem ans_wr (d : BitVec 64) (g : Bool) (r : Row) {i : Nat} (hi : i < 8) (q : Rq) : (ansC d g r).take (2 + i * 5) ++ encR q ++ (ansC d g r).drop (2 + i * 5 + 5) = ansC d g (rowSet r i q) := by
  obtain ⟨q0, hq⟩ : ∃ q, r.1[i]? = some q := ⟨_, List.getElem?_eq_getElem (by rw [r.2]; omega)⟩
  obtain ⟨P, Q, g1, g2, g3⟩ := fm_split encR_l hq
  unfold ansC
  rw [show 2 + i * 5 = (i * 5 + 1) + 1 by omega, List.take_succ_cons, List.take_succ_cons, show i * 5 + 1 + 1 + 5 = (i * 5 + 5 + 1) + 1 by omega, List.drop_succ_cons, List.drop_succ_cons, List.cons_append, List.cons_append, List.cons_append, List.cons_append]
  congr 2
  unfold rowC rowSet
  simp only
  rw [g3, g1]
  have := splice_set (P := P) (M := encR q0) (Q := Q) (l := encR q) (o := 0) (by simp [encR_l])
  rw [Nat.add_zero, encR_l] at this
  rw [← g2, this]
  simp [encR]
/-- the slots of a sender, cleared up to a place, and what they were -/
def clrR (R : List Row) (f : Nat) : Nat → List Row
  | 0 => R
  | i + 1 => setR (clrR R f i) i f rq0
def colR (R : List Row) (f : Nat) : Nat → Row
  | 0 => row0
  | i + 1 => rowSet (colR R f i) i (slotR (clrR R f i) i f)
theorem clrR_len (R : List Row) (f : Nat) : ∀ i, (clrR R f i).length = R.length
  | 0 => rfl
  | i + 1 => by rw [clrR, setR_len, clrR_len R f i]
def doR (n : Int) (R : List Row) (hart k h : Int) (q : Rq) : List Row :=
  if mlMay n hart k h q.s q.i = true then
    (if k = 13 then setR R hart.toNat h.toNat (mergeR (slotR R hart.toNat h.toNat) q) else if k = 12 then clrR R hart.toNat 8 else R)
  else R
def doRA (n : Int) (R : List Row) (hart k h : Int) (q : Rq) : List Sc :=
  if mlMay n hart k h q.s q.i = true then
    (if k = 13 then ansC 0#64 false row0 else if k = 12 then ansC 0#64 false (colR R hart.toNat 8) else ansC 0#64 (!(slotR R hart.toNat h.toNat).s) row0)
  else ansC 0#64 false row0
theorem doR_len {n : Int} {R : List Row} {hart k h : Int} {q : Rq} : (doR n R hart k h q).length = R.length := by
  unfold doR
  split
  · split
    · exact setR_len _ _ _ _
    · split
      · exact clrR_len _ _ _
      · rfl
  · rfl
def isM2 (m : List Sc) : Prop := ∃ n R, m = mlC n R ∧ R.length = 8 ∧ n ≤ 8
instance (l : List Sc) : Decidable (isM2 l) := Classical.propDecidable _
def rdoV (m : List Sc) (hart k h : Int) (q : Rq) : AV := match mlD (.own m) with
  | some (n, R) => .t [.g (mlC n (doR n R hart k h q)), .g (doRA n R hart k h q), .c (.b (mlMay n hart k h q.s q.i))]
  | none => .c (.b false)
theorem ansC_pf (d : BitVec 64) (g : Bool) (r : Row) : (ansC d g r).all Sc.pf = true := by
  unfold ansC rowC
  rw [List.all_cons, List.all_cons, List.all_flatMap]
  simp only [Sc.pf, Bool.true_and]
  exact List.all_eq_true.2 fun _ _ => rfl
theorem doRA_pf (n : Int) (R : List Row) (hart k h : Int) (q : Rq) : (doRA n R hart k h q).all Sc.pf = true := by
  unfold doRA
  repeat' split
  all_goals exact ansC_pf _ _ _
theorem mlC_one (n : Int) (B : List Row) : (mlC n B).all Sc.one = true := by
  unfold mlC
  rw [List.all_cons]
  simp only [Sc.one, Bool.true_and]
  rw [List.all_flatMap]
  exact List.all_eq_true.2 fun r _ => rowC_one r
theorem ansC_one (d : BitVec 64) (g : Bool) (r : Row) : (ansC d g r).all Sc.one = true := by
  unfold ansC
  rw [List.all_cons, List.all_cons]
  simp only [Sc.one, Bool.true_and]
  exact rowC_one r
theorem ansC_bel (d : BitVec 64) (g : Bool) (r : Row) (m : Nat) : (ansC d g r).all (Sc.bel m) = true := by
  unfold ansC rowC
  rw [List.all_cons, List.all_cons, List.all_flatMap]
  simp only [Sc.bel, Bool.true_and]
  exact List.all_eq_true.2 fun _ _ => rfl
theorem bel5 {a b c d : List Sc} (ha : a.all (Sc.bel 5) = true) (hb : b.all (Sc.bel 5) = true) (hc : c.all (Sc.bel 5) = true) (hd : d.all (Sc.bel 5) = true) : belH [.own a, .dead, .own b, .own c, .own d] = true := by
  have z : AObj.dead.cells.all (Sc.bel 5) = true := rfl
  simp only [belH, List.length_cons, List.length_nil, List.all_cons, List.all_nil, Bool.and_true, Bool.and_eq_true]
  exact ⟨ha, z, hb, hc, hd⟩
theorem slot_s {n : Int} {B : List Row} (hB : B.length = 8) {t f : Nat} (ht : t < 8) (hf : f < 8) : (mlC n B).getD (1 + t * 40 + f * 5) .any = .b (slotR B t f).s := by
  have h := slot_rd (n := n) hB ht hf
  have l := mlC_len n hB
  have h2 : (((mlC n B).drop (1 + t * 40 + f * 5)).take 5).getD 0 .any = (mlC n B).getD (1 + t * 40 + f * 5) .any := by
    rw [List.getD_eq_getElem?_getD, List.getD_eq_getElem?_getD, List.getElem?_take_of_lt (by decide), List.getElem?_drop, Nat.add_zero]
  rw [← h2, h]; rfl
set_option maxRecDepth 100000 in
set_option maxHeartbeats 8000000 in
def s_rdo29 (args : List AV) : Option AV :=
  match args with
  | [.g m, .c (.i hart), .g [.i k, .u x1, .u x2, .i x3, .i x4, .i x5, .u x6, .u x7, .b x8, .i h, .b rs, .b rv, .b rd, .u ra, .i ri, .i z1, .u z2, .i z3, .u z4]] => if isM2 m then some (rdoV m hart k h ⟨rs, rv, rd, ra, ri⟩) else none
  | _ => none
theorem s_rdo29_eq {m hart k x1 x2 x3 x4 x5 x6 x7 x8 h rs rv rd ra ri z1 z2 z3 z4} : s_rdo29 [.g m, .c (.i hart), .g [.i k, .u x1, .u x2, .i x3, .i x4, .i x5, .u x6, .u x7, .b x8, .i h, .b rs, .b rv, .b rd, .u ra, .i ri, .i z1, .u z2, .i z3, .u z4]] = if isM2 m then some (rdoV m hart k h ⟨rs, rv, rd, ra, ri⟩) else none := rfl
set_option maxRecDepth 100000 in
set_option maxHeartbeats 2000000 in
theorem ok_rdo29 : PuOk Try.prog 13 s_rdo29 := by
  refine pu_ok (tab := [(10, .pu s_rmay29), (19, .pu s_rmerge29)]) hmix (TabOk.cons (e := .pu s_rmay29) ok_rmay29 (TabOk.cons (e := .pu s_rmerge29) ok_rmerge29 TabOk.nil)) Try.func13 rfl Try.results13 Try.ntmps13 (by kernel_rfl) (by kernel_rfl) ?_
  intro args v h
  unfold s_rdo29 at h
  split at h
  · rename_i m hart k x1 x2 x3 x4 x5 x6 x7 x8 h rs rv rd ra ri z1 z2 z3 z4
    split at h
    · rename_i hc
      simp only [Option.some.injEq] at h; subst h
      obtain ⟨n, R, rfl, hR, hn⟩ := hc
      have ev : rdoV (mlC n R) hart k h ⟨rs, rv, rd, ra, ri⟩ = .t [.g (mlC n (doR n R hart k h ⟨rs, rv, rd, ra, ri⟩)), .g (doRA n R hart k h ⟨rs, rv, rd, ra, ri⟩), .c (.b (mlMay n hart k h rs ri))] := by unfold rdoV; rw [mlD_of hR]
      have mp := mlC_pf
      have dp := doRA_pf n R hart k h ⟨rs, rv, rd, ra, ri⟩
      refine ⟨by simp only [List.length_cons, List.length_nil]; decide, by first | rfl | simp only [List.all_cons, List.all_nil, AV.pf, Sc.pf, Bool.and_true, *], by first | rfl | simp only [List.all_cons, List.all_nil, AV.pf, Sc.pf, Bool.and_true, *], ?_⟩
      rw [ev]
      have l0 := mlC_len n hR
      have lz := mlC_len 0 Z8_len
      obtain ⟨m0, m1⟩ := isM_of n hR
      have t0 : (mlC n R).take 321 = mlC n R := List.take_of_length_le (by omega)
      have tz : (mlC 0 Z8).drop 321 = [] := List.drop_of_length_le (by omega)
      have ez : ∀ X, Sc.u 0#64 :: Sc.b false :: (rowC row0 ++ X) = ansC 0#64 false row0 ++ X := fun X => rfl
      have al := ansC_l
      have a0 : ∀ r d g, (ansC d g r).take 42 = ansC d g r := fun r d g => List.take_of_length_le (by rw [al]; omega)
      have a1 : ∀ r d g, (ansC d g r).drop 42 = [] := fun r d g => List.drop_of_length_le (by rw [al]; omega)
      have mo : ∀ R', (mlC n R').all Sc.one = true := fun R' => mlC_one n R'
      have ao : ∀ d g r, (ansC d g r).all Sc.one = true := ansC_one
      cases hmm : mlMay n hart k h rs ri
      · have r1 : doRA n R hart k h ⟨rs, rv, rd, ra, ri⟩ = ansC 0#64 false row0 := by unfold doRA; rw [if_neg (by simp [hmm])]
        have r2 : doR n R hart k h ⟨rs, rv, rd, ra, ri⟩ = R := by unfold doR; rw [if_neg (by simp [hmm])]
        rw [r1, r2]
        (try simp (config := { maxSteps := 10000000 }) only [go_sem, List.reduceReplicate, BitVec.reduceOfInt, BitVec.reduceToNat, BitVec.reduceToInt, BitVec.reduceEq, BitVec.reduceLT, BitVec.reduceLE, BitVec.reduceAdd, BitVec.reduceSub, BitVec.reduceMul, BitVec.reduceUDiv, BitVec.reduceUMod, BitVec.reduceAnd, BitVec.reduceOr, BitVec.reduceXOr, BitVec.reduceNot, BitVec.reduceNeg, BitVec.reduceHShiftLeft, BitVec.reduceHShiftRight, Nat.reduceAdd, Nat.reduceMul, Nat.reduceSub, Nat.reduceBEq, Nat.reduceEqDiff, Nat.reduceLeDiff, Nat.reduceLT, Int.reduceLE, Int.reduceLT, Int.reduceAdd, Int.reduceSub, Int.reduceMul, Int.reduceNeg, Int.reduceToNat, Int.reduceEq, ↓reduceIte, reduceCtorEq, s_rmay29_eq, s_rmerge29_eq, l0, lz, t0, tz, m0, m1, hmm, zM29, mo]; repeat (simp (disch := omega) only [w64_d, ipos, ineg, dpos, dneg]; try simp (config := { maxSteps := 10000000 }) only [go_sem, List.reduceReplicate, BitVec.reduceOfInt, BitVec.reduceToNat, BitVec.reduceToInt, BitVec.reduceEq, BitVec.reduceLT, BitVec.reduceLE, BitVec.reduceAdd, BitVec.reduceSub, BitVec.reduceMul, BitVec.reduceUDiv, BitVec.reduceUMod, BitVec.reduceAnd, BitVec.reduceOr, BitVec.reduceXOr, BitVec.reduceNot, BitVec.reduceNeg, BitVec.reduceHShiftLeft, BitVec.reduceHShiftRight, Nat.reduceAdd, Nat.reduceMul, Nat.reduceSub, Nat.reduceBEq, Nat.reduceEqDiff, Nat.reduceLeDiff, Nat.reduceLT, Int.reduceLE, Int.reduceLT, Int.reduceAdd, Int.reduceSub, Int.reduceMul, Int.reduceNeg, Int.reduceToNat, Int.reduceEq, ↓reduceIte, reduceCtorEq, s_rmay29_eq, s_rmerge29_eq, l0, lz, t0, tz, m0, m1, hmm, zM29, mo]))
        rfl
      obtain ⟨i1, i2⟩ := may_in hmm
      simp only [inH, Bool.and_eq_true, decide_eq_true_eq] at i1
      obtain ⟨f, rfl⟩ := Int.eq_ofNat_of_zero_le i1.1
      have hf : f < 8 := by omega
      have nf : (0 : Int) ≤ (f : Int) := by omega
      have nf8 : (f : Int) < 8 := by omega
      rcases i2 with k12 | ⟨k13 | k14, m3⟩
      · subst k12
        have r1 : doRA n R f 12 h ⟨rs, rv, rd, ra, ri⟩ = ansC 0#64 false (colR R f 8) := by
          unfold doRA; rw [if_pos (by simp only [hmm]), if_neg (by omega), if_pos rfl, Int.toNat_natCast]
        have r2 : doR n R f 12 h ⟨rs, rv, rd, ra, ri⟩ = clrR R f 8 := by
          unfold doR; rw [if_pos (by simp only [hmm]), if_neg (by omega), if_pos rfl, Int.toNat_natCast]
        rw [r1, r2]
        (try simp (config := { maxSteps := 10000000 }) only [go_sem, List.reduceReplicate, BitVec.reduceOfInt, BitVec.reduceToNat, BitVec.reduceToInt, BitVec.reduceEq, BitVec.reduceLT, BitVec.reduceLE, BitVec.reduceAdd, BitVec.reduceSub, BitVec.reduceMul, BitVec.reduceUDiv, BitVec.reduceUMod, BitVec.reduceAnd, BitVec.reduceOr, BitVec.reduceXOr, BitVec.reduceNot, BitVec.reduceNeg, BitVec.reduceHShiftLeft, BitVec.reduceHShiftRight, Nat.reduceAdd, Nat.reduceMul, Nat.reduceSub, Nat.reduceBEq, Nat.reduceEqDiff, Nat.reduceLeDiff, Nat.reduceLT, Int.reduceLE, Int.reduceLT, Int.reduceAdd, Int.reduceSub, Int.reduceMul, Int.reduceNeg, Int.reduceToNat, Int.reduceEq, ↓reduceIte, reduceCtorEq, s_rmay29_eq, s_rmerge29_eq, l0, lz, t0, tz, m0, m1, hmm, zM29, mo]; repeat (simp (disch := omega) only [w64_d, ipos, ineg, dpos, dneg]; try simp (config := { maxSteps := 10000000 }) only [go_sem, List.reduceReplicate, BitVec.reduceOfInt, BitVec.reduceToNat, BitVec.reduceToInt, BitVec.reduceEq, BitVec.reduceLT, BitVec.reduceLE, BitVec.reduceAdd, BitVec.reduceSub, BitVec.reduceMul, BitVec.reduceUDiv, BitVec.reduceUMod, BitVec.reduceAnd, BitVec.reduceOr, BitVec.reduceXOr, BitVec.reduceNot, BitVec.reduceNeg, BitVec.reduceHShiftLeft, BitVec.reduceHShiftRight, Nat.reduceAdd, Nat.reduceMul, Nat.reduceSub, Nat.reduceBEq, Nat.reduceEqDiff, Nat.reduceLeDiff, Nat.reduceLT, Int.reduceLE, Int.reduceLT, Int.reduceAdd, Int.reduceSub, Int.reduceMul, Int.reduceNeg, Int.reduceToNat, Int.reduceEq, ↓reduceIte, reduceCtorEq, s_rmay29_eq, s_rmerge29_eq, l0, lz, t0, tz, m0, m1, hmm, zM29, mo]))
        refine arun_for 8 (fun i => ([(1, .c (.i f)), (3, .c (.p 0 0 0)), (6, .c (.p 2 0 0)), (7, .c (.p 3 0 0)), (9, .c (.p 4 0 0)), (10, .c (.i i))], [.own (mlC n (clrR R f i)), .dead, .own (mlC 0 Z8), .own (ansC 0#64 false row0), .own (ansC 0#64 false (colR R f i))])) ?_ fun i hi => ?_
        · exact Wk.wk (by simp [lo]) (by simp [Am.get]) (by simp [AV.bel, Sc.bel]) ⟨.inr rfl, .inl rfl, .inr rfl, .inr rfl, .inr rfl, trivial⟩ (bel5 (mlC_bel _ _ _) (mlC_bel _ _ _) (ansC_bel _ _ _ _) (ansC_bel _ _ _ _))
        have ni : (0 : Int) ≤ (i : Int) := by omega
        have hcl : (clrR R f i).length = 8 := by rw [clrR_len]; exact hR
        have l4 := mlC_len n hcl
        by_cases h8 : i < 8
        rotate_left
        · obtain rfl : i = 8 := by omega
          have t4 : (mlC n (clrR R f 8)).take 321 = mlC n (clrR R f 8) := List.take_of_length_le (by omega)
          (try simp (config := { maxSteps := 10000000 }) only [go_sem, List.reduceReplicate, BitVec.reduceOfInt, BitVec.reduceToNat, BitVec.reduceToInt, BitVec.reduceEq, BitVec.reduceLT, BitVec.reduceLE, BitVec.reduceAdd, BitVec.reduceSub, BitVec.reduceMul, BitVec.reduceUDiv, BitVec.reduceUMod, BitVec.reduceAnd, BitVec.reduceOr, BitVec.reduceXOr, BitVec.reduceNot, BitVec.reduceNeg, BitVec.reduceHShiftLeft, BitVec.reduceHShiftRight, Nat.reduceAdd, Nat.reduceMul, Nat.reduceSub, Nat.reduceBEq, Nat.reduceEqDiff, Nat.reduceLeDiff, Nat.reduceLT, Int.reduceLE, Int.reduceLT, Int.reduceAdd, Int.reduceSub, Int.reduceMul, Int.reduceNeg, Int.reduceToNat, Int.reduceEq, ↓reduceIte, reduceCtorEq, l4, lz, t4, tz, mo, al, a0, a1, ao]; repeat (simp (disch := omega) only [w64_d, ipos, ineg, dpos, dneg]; try simp (config := { maxSteps := 10000000 }) only [go_sem, List.reduceReplicate, BitVec.reduceOfInt, BitVec.reduceToNat, BitVec.reduceToInt, BitVec.reduceEq, BitVec.reduceLT, BitVec.reduceLE, BitVec.reduceAdd, BitVec.reduceSub, BitVec.reduceMul, BitVec.reduceUDiv, BitVec.reduceUMod, BitVec.reduceAnd, BitVec.reduceOr, BitVec.reduceXOr, BitVec.reduceNot, BitVec.reduceNeg, BitVec.reduceHShiftLeft, BitVec.reduceHShiftRight, Nat.reduceAdd, Nat.reduceMul, Nat.reduceSub, Nat.reduceBEq, Nat.reduceEqDiff, Nat.reduceLeDiff, Nat.reduceLT, Int.reduceLE, Int.reduceLT, Int.reduceAdd, Int.reduceSub, Int.reduceMul, Int.reduceNeg, Int.reduceToNat, Int.reduceEq, ↓reduceIte, reduceCtorEq, l4, lz, t4, tz, mo, al, a0, a1, ao]))
        have ni8 : (i : Int) < 8 := by omega
        have e1 : w64 ((i : Int) + 1) = ((i + 1 : Nat) : Int) := by rw [w64_of (by omega)]; omega
        have g1 := slot_rd (n := n) hcl h8 hf
        have g2 := slot_wr (n := n) hcl h8 hf rq0
        have g3 := ans_wr 0#64 false (colR R f i) h8 (slotR (clrR R f i) i f)
        have er : encR rq0 = [.b false, .b false, .b false, .u 0#64, .i 0] := rfl
        rw [er] at g2
        simp only [List.append_assoc, List.cons_append, List.nil_append] at g2 g3
        have g6 : ∀ m, (encR m).all Sc.one = true := fun m => rfl
        have b1 : 1 + i * 40 + f * 5 + 5 ≤ 321 := by omega
        have b2 : 2 + i * 5 + 5 ≤ 42 := by omega
        (try simp (config := { maxSteps := 10000000 }) only [go_sem, List.reduceReplicate, BitVec.reduceOfInt, BitVec.reduceToNat, BitVec.reduceToInt, BitVec.reduceEq, BitVec.reduceLT, BitVec.reduceLE, BitVec.reduceAdd, BitVec.reduceSub, BitVec.reduceMul, BitVec.reduceUDiv, BitVec.reduceUMod, BitVec.reduceAnd, BitVec.reduceOr, BitVec.reduceXOr, BitVec.reduceNot, BitVec.reduceNeg, BitVec.reduceHShiftLeft, BitVec.reduceHShiftRight, Nat.reduceAdd, Nat.reduceMul, Nat.reduceSub, Nat.reduceBEq, Nat.reduceEqDiff, Nat.reduceLeDiff, Nat.reduceLT, Int.reduceLE, Int.reduceLT, Int.reduceAdd, Int.reduceSub, Int.reduceMul, Int.reduceNeg, Int.reduceToNat, Int.reduceEq, ↓reduceIte, reduceCtorEq, l4, al, ao, nf, nf8, ni, ni8, g1, g2, g3, g6, b1, b2, e1, encR_l]; repeat (simp (disch := omega) only [w64_d, ipos, ineg, dpos, dneg]; try simp (config := { maxSteps := 10000000 }) only [go_sem, List.reduceReplicate, BitVec.reduceOfInt, BitVec.reduceToNat, BitVec.reduceToInt, BitVec.reduceEq, BitVec.reduceLT, BitVec.reduceLE, BitVec.reduceAdd, BitVec.reduceSub, BitVec.reduceMul, BitVec.reduceUDiv, BitVec.reduceUMod, BitVec.reduceAnd, BitVec.reduceOr, BitVec.reduceXOr, BitVec.reduceNot, BitVec.reduceNeg, BitVec.reduceHShiftLeft, BitVec.reduceHShiftRight, Nat.reduceAdd, Nat.reduceMul, Nat.reduceSub, Nat.reduceBEq, Nat.reduceEqDiff, Nat.reduceLeDiff, Nat.reduceLT, Int.reduceLE, Int.reduceLT, Int.reduceAdd, Int.reduceSub, Int.reduceMul, Int.reduceNeg, Int.reduceToNat, Int.reduceEq, ↓reduceIte, reduceCtorEq, l4, al, ao, nf, nf8, ni, ni8, g1, g2, g3, g6, b1, b2, e1, encR_l]))
        exact ⟨i + 1, by omega, by omega, Wk.wk (by simp [lo]) (by simp [Am.get]) (by simp [AV.bel, Sc.bel]) ⟨.inr rfl, .inr rfl, .inr rfl, .inr rfl, .inr rfl, trivial⟩ (bel5 (mlC_bel _ _ _) (mlC_bel _ _ _) (ansC_bel _ _ _ _) (ansC_bel _ _ _ _))⟩
      · subst k13
        simp only [inH, Bool.and_eq_true, decide_eq_true_eq] at m3
        obtain ⟨g, rfl⟩ := Int.eq_ofNat_of_zero_le m3.1
        have hg8 : g < 8 := by omega
        have r1 : doRA n R f 13 g ⟨rs, rv, rd, ra, ri⟩ = ansC 0#64 false row0 := by
          unfold doRA; rw [if_pos (by simp only [hmm]), if_pos rfl]
        have r2 : doR n R f 13 g ⟨rs, rv, rd, ra, ri⟩ = setR R f g (mergeR (slotR R f g) ⟨rs, rv, rd, ra, ri⟩) := by
          unfold doR; rw [if_pos (by simp only [hmm]), if_pos rfl, Int.toNat_natCast, Int.toNat_natCast]
        rw [r1, r2]
        have g1 := slot_rd (n := n) hR hf hg8
        have g2 := slot_wr (n := n) hR hf hg8 (mergeR (slotR R f g) ⟨rs, rv, rd, ra, ri⟩)
        simp only [List.append_assoc] at g2
        have ng : (0 : Int) ≤ (g : Int) := by omega
        have ng8 : (g : Int) < 8 := by omega
        have ng7 : 1 + f * 40 + g * 5 + 5 ≤ 321 := by omega
        have l3 := mlC_len n (B := setR R f g (mergeR (slotR R f g) ⟨rs, rv, rd, ra, ri⟩)) (by rw [setR_len]; exact hR)
        have t3 : (mlC n (setR R f g (mergeR (slotR R f g) ⟨rs, rv, rd, ra, ri⟩))).take 321 = _ := List.take_of_length_le (by omega)
        generalize hsl : slotR R f g = sl at g1 g2 l3 t3
        obtain ⟨os, ov, od, oa, oi⟩ := sl
        have es : encR ⟨os, ov, od, oa, oi⟩ = [.b os, .b ov, .b od, .u oa, .i oi] := rfl
        rw [es] at g1
        have g6 : ∀ m, (encR m).all Sc.one = true := fun m => rfl
        (try simp (config := { maxSteps := 10000000 }) only [go_sem, List.reduceReplicate, BitVec.reduceOfInt, BitVec.reduceToNat, BitVec.reduceToInt, BitVec.reduceEq, BitVec.reduceLT, BitVec.reduceLE, BitVec.reduceAdd, BitVec.reduceSub, BitVec.reduceMul, BitVec.reduceUDiv, BitVec.reduceUMod, BitVec.reduceAnd, BitVec.reduceOr, BitVec.reduceXOr, BitVec.reduceNot, BitVec.reduceNeg, BitVec.reduceHShiftLeft, BitVec.reduceHShiftRight, Nat.reduceAdd, Nat.reduceMul, Nat.reduceSub, Nat.reduceBEq, Nat.reduceEqDiff, Nat.reduceLeDiff, Nat.reduceLT, Int.reduceLE, Int.reduceLT, Int.reduceAdd, Int.reduceSub, Int.reduceMul, Int.reduceNeg, Int.reduceToNat, Int.reduceEq, ↓reduceIte, reduceCtorEq, s_rmay29_eq, s_rmerge29_eq, l0, lz, t0, tz, m0, m1, hmm, zM29, mo, nf, nf8, ng, ng8, ng7, g1, g2, g6, encR_l, l3, t3, hsl]; repeat (simp (disch := omega) only [w64_d, ipos, ineg, dpos, dneg]; try simp (config := { maxSteps := 10000000 }) only [go_sem, List.reduceReplicate, BitVec.reduceOfInt, BitVec.reduceToNat, BitVec.reduceToInt, BitVec.reduceEq, BitVec.reduceLT, BitVec.reduceLE, BitVec.reduceAdd, BitVec.reduceSub, BitVec.reduceMul, BitVec.reduceUDiv, BitVec.reduceUMod, BitVec.reduceAnd, BitVec.reduceOr, BitVec.reduceXOr, BitVec.reduceNot, BitVec.reduceNeg, BitVec.reduceHShiftLeft, BitVec.reduceHShiftRight, Nat.reduceAdd, Nat.reduceMul, Nat.reduceSub, Nat.reduceBEq, Nat.reduceEqDiff, Nat.reduceLeDiff, Nat.reduceLT, Int.reduceLE, Int.reduceLT, Int.reduceAdd, Int.reduceSub, Int.reduceMul, Int.reduceNeg, Int.reduceToNat, Int.reduceEq, ↓reduceIte, reduceCtorEq, s_rmay29_eq, s_rmerge29_eq, l0, lz, t0, tz, m0, m1, hmm, zM29, mo, nf, nf8, ng, ng8, ng7, g1, g2, g6, encR_l, l3, t3, hsl]))
        repeat' apply And.intro
        all_goals first | decide | (exact fun _ => by decide) | (intro hx; exfalso; omega) | exact fun hx => hx.2.elim | rfl
      · subst k14
        simp only [inH, Bool.and_eq_true, decide_eq_true_eq] at m3
        obtain ⟨g, rfl⟩ := Int.eq_ofNat_of_zero_le m3.1
        have hg8 : g < 8 := by omega
        have r1 : doRA n R f 14 g ⟨rs, rv, rd, ra, ri⟩ = ansC 0#64 (!(slotR R f g).s) row0 := by
          unfold doRA; rw [if_pos (by simp only [hmm]), if_neg (by omega), if_neg (by omega), Int.toNat_natCast, Int.toNat_natCast]
        have r2 : doR n R f 14 g ⟨rs, rv, rd, ra, ri⟩ = R := by
          unfold doR; rw [if_pos (by simp only [hmm]), if_neg (by omega), if_neg (by omega)]
        rw [r1, r2]
        have g1 : (mlC n R).getD (1 + f * 40 + g * 5) .any = .b (slotR R f g).s := slot_s hR hf hg8
        have ng : (0 : Int) ≤ (g : Int) := by omega
        have ng8 : (g : Int) < 8 := by omega
        have ng7 : 1 + f * 40 + g * 5 + 1 ≤ 321 := by omega
        (try simp (config := { maxSteps := 10000000 }) only [go_sem, List.reduceReplicate, BitVec.reduceOfInt, BitVec.reduceToNat, BitVec.reduceToInt, BitVec.reduceEq, BitVec.reduceLT, BitVec.reduceLE, BitVec.reduceAdd, BitVec.reduceSub, BitVec.reduceMul, BitVec.reduceUDiv, BitVec.reduceUMod, BitVec.reduceAnd, BitVec.reduceOr, BitVec.reduceXOr, BitVec.reduceNot, BitVec.reduceNeg, BitVec.reduceHShiftLeft, BitVec.reduceHShiftRight, Nat.reduceAdd, Nat.reduceMul, Nat.reduceSub, Nat.reduceBEq, Nat.reduceEqDiff, Nat.reduceLeDiff, Nat.reduceLT, Int.reduceLE, Int.reduceLT, Int.reduceAdd, Int.reduceSub, Int.reduceMul, Int.reduceNeg, Int.reduceToNat, Int.reduceEq, ↓reduceIte, reduceCtorEq, s_rmay29_eq, s_rmerge29_eq, l0, lz, t0, tz, m0, m1, hmm, zM29, mo, nf, nf8, ng, ng8, ng7, g1]; repeat (simp (disch := omega) only [w64_d, ipos, ineg, dpos, dneg]; try simp (config := { maxSteps := 10000000 }) only [go_sem, List.reduceReplicate, BitVec.reduceOfInt, BitVec.reduceToNat, BitVec.reduceToInt, BitVec.reduceEq, BitVec.reduceLT, BitVec.reduceLE, BitVec.reduceAdd, BitVec.reduceSub, BitVec.reduceMul, BitVec.reduceUDiv, BitVec.reduceUMod, BitVec.reduceAnd, BitVec.reduceOr, BitVec.reduceXOr, BitVec.reduceNot, BitVec.reduceNeg, BitVec.reduceHShiftLeft, BitVec.reduceHShiftRight, Nat.reduceAdd, Nat.reduceMul, Nat.reduceSub, Nat.reduceBEq, Nat.reduceEqDiff, Nat.reduceLeDiff, Nat.reduceLT, Int.reduceLE, Int.reduceLT, Int.reduceAdd, Int.reduceSub, Int.reduceMul, Int.reduceNeg, Int.reduceToNat, Int.reduceEq, ↓reduceIte, reduceCtorEq, s_rmay29_eq, s_rmerge29_eq, l0, lz, t0, tz, m0, m1, hmm, zM29, mo, nf, nf8, ng, ng8, ng7, g1]))
        repeat' apply And.intro
        all_goals first | decide | (exact fun _ => by decide) | (intro hx; exfalso; omega) | exact fun hx => hx.2.elim | rfl
    · simp at h
  · simp at h

end
end Go.Proofs.Ythjhkckndnhjpaa
