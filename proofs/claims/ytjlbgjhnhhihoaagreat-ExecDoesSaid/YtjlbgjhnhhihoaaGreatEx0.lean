/- Layer 3: the document's table of instructions: contracts (printed by gx0.py). -/
import Derived.Test.YtjlbgjhnhhihoaaGreatEx1
import Derived.Test.YtjlbgjhnhhihoaaGreatArr
namespace Go.Proofs.YtjlbgjhnhhihoaaGreat
open Go.Am
set_option linter.unusedSimpArgs false
set_option linter.unusedVariables false
noncomputable section

/-- the first number of which p holds, or n -/
def fstN (p : Nat → Bool) : Nat → Nat
  | 0 => 0
  | n + 1 => if fstN p n < n then fstN p n else if p n = true then n else n + 1
theorem fstN_le (p : Nat → Bool) : ∀ n, fstN p n ≤ n
  | 0 => Nat.le_refl _
  | n + 1 => by
    have := fstN_le p n
    simp only [fstN]
    repeat' split
    all_goals omega
theorem fstN_not {p : Nat → Bool} : ∀ {n k : Nat}, k < fstN p n → p k = false
  | 0, k, h => by simp [fstN] at h
  | n + 1, k, h => by
    have l := fstN_le p n
    simp only [fstN] at h
    split at h
    · exact fstN_not h
    · split at h
      · exact fstN_not (n := n) (by omega)
      · by_cases e : k = n
        · subst e; simpa using ‹¬p _ = true›
        · exact fstN_not (n := n) (by omega)
theorem fstN_hit {p : Nat → Bool} : ∀ {n : Nat}, fstN p n < n → p (fstN p n) = true
  | 0, h => by omega
  | n + 1, h => by
    simp only [fstN] at h ⊢
    split
    · exact fstN_hit ‹_›
    · split
      · assumption
      · rename_i h1 h2; rw [if_neg h1, if_neg h2] at h; omega
/-- the formats' names, by their numbers -/
def fnB : List (List UInt8) := [[], [82], [73], [83], [66], [85], [74], [83, 104, 105, 102, 116], [83, 104, 105, 102, 116, 87], [67, 115, 114], [67, 115, 114, 73], [65], [76, 114], [66, 97, 114, 101], [83, 102, 101, 110, 99, 101]]
def fn (k : Nat) : ByteArray := ⟨(fnB.getD k []).toArray⟩
def fnL : List Sc := fnB.map fun l => .s ⟨l.toArray⟩
theorem fnL_len : fnL.length = 15 := rfl
theorem fnL_get {k : Nat} (h : k < 15) : fnL.getD k .any = .s (fn k) := by
  unfold fnL fn
  rw [List.getD_eq_getElem?_getD, List.getElem?_map, List.getD_eq_getElem?_getD, List.getElem?_eq_getElem (show k < fnB.length from h)]
  rfl
theorem fn_ne : ∀ i : Nat, i < 15 → ∀ j : Nat, j < 15 → decide (fn i = fn j) = decide (i = j) := by decide +kernel
theorem fn_eq {i j : Nat} (hi : i < 15) (hj : j < 15) : (fn i = fn j) = (i = j) := by
  have := fn_ne i hi j hj
  exact propext (decide_eq_decide.1 this)
/-- a name's number -/
def nmF (s : ByteArray) : Nat := fstN (fun i => decide (fn i = s)) 15
theorem nmF_fn {f : Nat} (h : f < 15) : nmF (fn f) = f := by
  have a : nmF (fn f) ≤ f := by
    rcases Nat.lt_or_ge f (nmF (fn f)) with h1 | h1
    · have := fstN_not (p := fun i => decide (fn i = fn f)) h1
      simp at this
    · exact h1
  have b := fstN_hit (p := fun i => decide (fn i = fn f)) (n := 15) (show nmF (fn f) < 15 by omega)
  change decide (fn (nmF (fn f)) = fn f) = true at b
  rw [decide_eq_true_eq, fn_eq (by omega) h] at b
  exact b
theorem nmF_inv {s : ByteArray} (h : nmF s < 15) : s = fn (nmF s) := by
  have b := fstN_hit (p := fun i => decide (fn i = s)) (n := 15) h
  change decide (fn (nmF s) = s) = true at b
  rw [decide_eq_true_eq] at b
  exact b.symm
theorem fin_same {n : Nat} {v : AV} {H : AH} : ∃ v', some v = some v' ∧ Wk n [(0, v')] H ([(0, v)], H) :=
  ⟨_, rfl, fun ρ _ _ h1 h2 => ⟨ρ, h1, h2, fun i _ hi hL _ => ⟨i, hi, hL⟩, fun _ _ => rfl⟩⟩
theorem get_cases (fr : Fr) (s : Nat) : Am.get fr s = .c .any ∨ ∃ p ∈ fr, p.1 = s ∧ Am.get fr s = p.2 := by
  induction fr with
  | nil => exact .inl rfl
  | cons a r ih =>
    obtain ⟨d, v⟩ := a
    by_cases h : d = s
    · exact .inr ⟨(d, v), by simp, h, by simp [Am.get, h]⟩
    · have e : Am.get ((d, v) :: r) s = Am.get r s := by simp [Am.get, h]
      rw [e]
      rcases ih with h1 | ⟨p, h1, h2, h3⟩
      · exact .inl h1
      · exact .inr ⟨p, by simp [h1], h2, h3⟩
theorem Wk.fr {n : Nat} {fr fr' : Fr} {H : AH} (hf : ∀ p ∈ fr', Am.get fr p.1 = p.2) : Wk n fr H (fr', H) := fun ρ w tm h1 h2 =>
  ⟨ρ, fun s => by
    show VRel ρ (Am.get fr' s) (tm s)
    rcases get_cases fr' s with e | ⟨p, hp, rfl, e⟩
    · rw [e]; exact trivial
    · rw [e, ← hf p hp]; exact h1 p.1, h2, fun i _ hi hL _ => ⟨i, hi, hL⟩, fun _ _ => rfl⟩
def tabF : List (Nat × Nat) := [(0, 0), (127, 55), (127, 23), (127, 111), (28799, 103), (28799, 99), (28799, 4195), (28799, 16483), (28799, 20579), (28799, 24675), (28799, 28771), (28799, 3), (28799, 4099), (28799, 8195), (28799, 12291), (28799, 16387), (28799, 20483), (28799, 24579), (28799, 35), (28799, 4131), (28799, 8227), (28799, 12323), (28799, 19), (28799, 8211), (28799, 12307), (28799, 16403), (28799, 24595), (28799, 28691), (4227887231, 4115), (4227887231, 20499), (4227887231, 1073762323), (4261441663, 51), (4261441663, 1073741875), (4261441663, 4147), (4261441663, 8243), (4261441663, 12339), (4261441663, 16435), (4261441663, 20531), (4261441663, 1073762355), (4261441663, 24627), (4261441663, 28723), (28799, 27), (4261441663, 4123), (4261441663, 20507), (4261441663, 1073762331), (4261441663, 59), (4261441663, 1073741883), (4261441663, 4155), (4261441663, 20539), (4261441663, 1073762363), (28799, 15), (28799, 4111), (4294967295, 115), (4294967295, 1048691), (4261441663, 33554483), (4261441663, 33558579), (4261441663, 33562675), (4261441663, 33566771), (4261441663, 33570867), (4261441663, 33574963), (4261441663, 33579059), (4261441663, 33583155), (4261441663, 33554491), (4261441663, 33570875), (4261441663, 33574971), (4261441663, 33579067), (4261441663, 33583163), (4193284223, 268443695), (4160778367, 402661423), (4160778367, 134225967), (4160778367, 8239), (4160778367, 536879151), (4160778367, 1610620975), (4160778367, 1073750063), (4160778367, 2147491887), (4160778367, 2684362799), (4160778367, 3221233711), (4160778367, 3758104623), (4193284223, 268447791), (4160778367, 402665519), (4160778367, 134230063), (4160778367, 12335), (4160778367, 536883247), (4160778367, 1610625071), (4160778367, 1073754159), (4160778367, 2147495983), (4160778367, 2684366895), (4160778367, 3221237807), (4160778367, 3758108719), (28799, 4211), (28799, 8307), (28799, 12403), (28799, 20595), (28799, 24691), (28799, 28787), (4294967295, 807403635), (4294967295, 270532723), (4294967295, 273678451), (4261445631, 301990003)]
def tM (i : Nat) : Nat := (tabF.getD i (0, 0)).1
def tV (i : Nat) : Nat := (tabF.getD i (0, 0)).2
/-- an op's row -/
def rowOp (op : Nat) : List Sc := [.i op, .s (fn (fmtT op).toNat), .u (BitVec.ofNat 64 (tM op)), .u (BitVec.ofNat 64 (tV op))]
def rowsC : List Sc := (List.range 98).flatMap fun i => rowOp (i + 1)
def s_rrows (args : List AV) (H : AH) : Option (AV × AH) :=
  match args with
  | [] => some (.c (.sl H.length 0 392 98), H ++ [.vec 4 rowsC])
  | _ => none
theorem s_rrows_eq {H : AH} : s_rrows [] H = some (.c (.sl H.length 0 392 98), H ++ [.vec 4 rowsC]) := rfl
theorem len_rrows (args : List AV) (H : AH) (v : AV) (H1 : AH) (h : s_rrows args H = some (v, H1)) : H.length ≤ H1.length := by
  unfold s_rrows at h
  split at h
  · simp only [Option.some.injEq, Prod.mk.injEq] at h; rw [← h.2]; simp
  · simp at h
set_option maxHeartbeats 20000000 in
set_option maxRecDepth 100000 in
set_option maxHeartbeats 2000000 in
theorem ok_rrows : FpOk Tryz.prog 52 s_rrows := by
  refine fp_ok (s := s_rrows) (tab := []) hmix TabOk.nil Tryz.func52 rfl Tryz.results52 Tryz.ntmps52 (by kernel_rfl) (by kernel_rfl) len_rrows ?_
  intro args H v H1 h hargs hH
  unfold s_rrows at h
  split at h
  · simp only [Option.some.injEq, Prod.mk.injEq] at h
    obtain ⟨rfl, rfl⟩ := h
    refine ⟨by decide, ?_⟩
    (try simp (config := { maxSteps := 10000000 }) only [go_sem, List.reduceReplicate, BitVec.reduceOfInt, BitVec.reduceToNat, BitVec.reduceToInt, BitVec.reduceEq, BitVec.reduceLT, BitVec.reduceLE, BitVec.reduceAdd, BitVec.reduceSub, BitVec.reduceMul, BitVec.reduceUDiv, BitVec.reduceUMod, BitVec.reduceAnd, BitVec.reduceOr, BitVec.reduceXOr, BitVec.reduceNot, BitVec.reduceNeg, BitVec.reduceHShiftLeft, BitVec.reduceHShiftRight, Nat.reduceAdd, Nat.reduceMul, Nat.reduceSub, Nat.reduceBEq, Nat.reduceEqDiff, Nat.reduceLeDiff, Nat.reduceLT, Int.reduceLE, Int.reduceLT, Int.reduceAdd, Int.reduceSub, Int.reduceMul, Int.reduceNeg, Int.reduceToNat, Int.reduceEq, ↓reduceIte, reduceCtorEq, List.append_eq, List.cons_append, List.nil_append]; repeat (simp (disch := omega) only [w64_d, ipos, ineg, dpos, dneg]; try simp (config := { maxSteps := 10000000 }) only [go_sem, List.reduceReplicate, BitVec.reduceOfInt, BitVec.reduceToNat, BitVec.reduceToInt, BitVec.reduceEq, BitVec.reduceLT, BitVec.reduceLE, BitVec.reduceAdd, BitVec.reduceSub, BitVec.reduceMul, BitVec.reduceUDiv, BitVec.reduceUMod, BitVec.reduceAnd, BitVec.reduceOr, BitVec.reduceXOr, BitVec.reduceNot, BitVec.reduceNeg, BitVec.reduceHShiftLeft, BitVec.reduceHShiftRight, Nat.reduceAdd, Nat.reduceMul, Nat.reduceSub, Nat.reduceBEq, Nat.reduceEqDiff, Nat.reduceLeDiff, Nat.reduceLT, Int.reduceLE, Int.reduceLT, Int.reduceAdd, Int.reduceSub, Int.reduceMul, Int.reduceNeg, Int.reduceToNat, Int.reduceEq, ↓reduceIte, reduceCtorEq, List.append_eq, List.cons_append, List.nil_append]))
    refine nxt_of (v := .c (.sl H.length 0 392 98)) (H' := H ++ [.vec 4 rowsC]) (by kernel_rfl) ?_
    (try simp (config := { maxSteps := 10000000 }) only [go_sem, List.reduceReplicate, BitVec.reduceOfInt, BitVec.reduceToNat, BitVec.reduceToInt, BitVec.reduceEq, BitVec.reduceLT, BitVec.reduceLE, BitVec.reduceAdd, BitVec.reduceSub, BitVec.reduceMul, BitVec.reduceUDiv, BitVec.reduceUMod, BitVec.reduceAnd, BitVec.reduceOr, BitVec.reduceXOr, BitVec.reduceNot, BitVec.reduceNeg, BitVec.reduceHShiftLeft, BitVec.reduceHShiftRight, Nat.reduceAdd, Nat.reduceMul, Nat.reduceSub, Nat.reduceBEq, Nat.reduceEqDiff, Nat.reduceLeDiff, Nat.reduceLT, Int.reduceLE, Int.reduceLT, Int.reduceAdd, Int.reduceSub, Int.reduceMul, Int.reduceNeg, Int.reduceToNat, Int.reduceEq, ↓reduceIte, reduceCtorEq]; repeat (simp (disch := omega) only [w64_d, ipos, ineg, dpos, dneg]; try simp (config := { maxSteps := 10000000 }) only [go_sem, List.reduceReplicate, BitVec.reduceOfInt, BitVec.reduceToNat, BitVec.reduceToInt, BitVec.reduceEq, BitVec.reduceLT, BitVec.reduceLE, BitVec.reduceAdd, BitVec.reduceSub, BitVec.reduceMul, BitVec.reduceUDiv, BitVec.reduceUMod, BitVec.reduceAnd, BitVec.reduceOr, BitVec.reduceXOr, BitVec.reduceNot, BitVec.reduceNeg, BitVec.reduceHShiftLeft, BitVec.reduceHShiftRight, Nat.reduceAdd, Nat.reduceMul, Nat.reduceSub, Nat.reduceBEq, Nat.reduceEqDiff, Nat.reduceLeDiff, Nat.reduceLT, Int.reduceLE, Int.reduceLT, Int.reduceAdd, Int.reduceSub, Int.reduceMul, Int.reduceNeg, Int.reduceToNat, Int.reduceEq, ↓reduceIte, reduceCtorEq]))
    exact fin_same
  · simp at h
def rowT (op : Int) : List Sc := if 1 ≤ op ∧ op ≤ 98 then rowOp op.toNat else [.i 0, .s (fn 0), .u 0#64, .u 0#64]
theorem rowT_pf (op : Int) : (rowT op).all Sc.pf = true := by unfold rowT rowOp; split <;> rfl
theorem row_l (i : Nat) : (rowOp (i + 1)).length = 4 := rfl
theorem row_at {k : Nat} (h : k < 98) : (List.range 98)[k]? = some k := by simp [h]
theorem rows_len : rowsC.length = 392 := by unfold rowsC; rw [fm_len row_l, List.length_range]
def findN (op : Int) : Nat := if 1 ≤ op ∧ op ≤ 98 then op.toNat - 1 else 98
set_option maxHeartbeats 4000000 in
def s_rfind (args : List AV) : Option AV :=
  match args with
  | [.c (.i op)] => some (.g (rowT op))
  | _ => none
theorem s_rfind_eq {op} : s_rfind [.c (.i op)] = some (.g (rowT op)) := rfl
set_option maxRecDepth 100000 in
set_option maxHeartbeats 2000000 in
theorem ok_rfind : PuOk Tryz.prog 24 s_rfind := by
  refine pu_ok (tab := [(52, .fp s_rrows)]) hmix (TabOk.cons (e := .fp s_rrows) ok_rrows TabOk.nil) Tryz.func24 rfl Tryz.results24 Tryz.ntmps24 (by kernel_rfl) (by kernel_rfl) ?_
  intro args v h
  unfold s_rfind at h
  split at h
  · rename_i op
    simp only [Option.some.injEq] at h; subst h
    have pz := rowT_pf op
    refine ⟨by simp only [List.length_cons, List.length_nil]; decide, by first | rfl | simp only [List.all_cons, List.all_nil, AV.pf, Sc.pf, Bool.and_true, *], by first | rfl | simp only [List.all_cons, List.all_nil, AV.pf, Sc.pf, Bool.and_true, *], ?_⟩
    (try simp (config := { maxSteps := 10000000 }) only [go_sem, List.reduceReplicate, BitVec.reduceOfInt, BitVec.reduceToNat, BitVec.reduceToInt, BitVec.reduceEq, BitVec.reduceLT, BitVec.reduceLE, BitVec.reduceAdd, BitVec.reduceSub, BitVec.reduceMul, BitVec.reduceUDiv, BitVec.reduceUMod, BitVec.reduceAnd, BitVec.reduceOr, BitVec.reduceXOr, BitVec.reduceNot, BitVec.reduceNeg, BitVec.reduceHShiftLeft, BitVec.reduceHShiftRight, Nat.reduceAdd, Nat.reduceMul, Nat.reduceSub, Nat.reduceBEq, Nat.reduceEqDiff, Nat.reduceLeDiff, Nat.reduceLT, Int.reduceLE, Int.reduceLT, Int.reduceAdd, Int.reduceSub, Int.reduceMul, Int.reduceNeg, Int.reduceToNat, Int.reduceEq, ↓reduceIte, reduceCtorEq, s_rrows_eq]; repeat (simp (disch := omega) only [w64_d, ipos, ineg, dpos, dneg]; try simp (config := { maxSteps := 10000000 }) only [go_sem, List.reduceReplicate, BitVec.reduceOfInt, BitVec.reduceToNat, BitVec.reduceToInt, BitVec.reduceEq, BitVec.reduceLT, BitVec.reduceLE, BitVec.reduceAdd, BitVec.reduceSub, BitVec.reduceMul, BitVec.reduceUDiv, BitVec.reduceUMod, BitVec.reduceAnd, BitVec.reduceOr, BitVec.reduceXOr, BitVec.reduceNot, BitVec.reduceNeg, BitVec.reduceHShiftLeft, BitVec.reduceHShiftRight, Nat.reduceAdd, Nat.reduceMul, Nat.reduceSub, Nat.reduceBEq, Nat.reduceEqDiff, Nat.reduceLeDiff, Nat.reduceLT, Int.reduceLE, Int.reduceLT, Int.reduceAdd, Int.reduceSub, Int.reduceMul, Int.reduceNeg, Int.reduceToNat, Int.reduceEq, ↓reduceIte, reduceCtorEq, s_rrows_eq]))
    refine arun_for (findN op) (fun k => ([(0, .c (.i op)), (2, .c (.p 0 0 0)), (3, .c (.sl 1 0 392 98)), (4, .c (.i k))], [.own [.i 0, .s (fn 0), .u 0#64, .u 0#64], .vec 4 rowsC])) (Wk.fr (by simp [Am.get])) fun k hk => ?_
    have hn : findN op ≤ 98 := by unfold findN; split <;> omega
    have e1 : w64 ((k : Int) + 1) = ((k + 1 : Nat) : Int) := by rw [w64_of (by omega)]; omega
    have k0 : (0 : Int) ≤ (k : Int) := by omega
    by_cases hlt : k < 98
    rotate_left
    · obtain rfl : k = 98 := by omega
      have rr : rowT op = [.i 0, .s ByteArray.empty, .u 0#64, .u 0#64] := by
        unfold rowT
        rw [if_neg (by unfold findN at hk; split at hk <;> omega)]
        rfl
      rw [rr]
      (try simp (config := { maxSteps := 10000000 }) only [go_sem, List.reduceReplicate, BitVec.reduceOfInt, BitVec.reduceToNat, BitVec.reduceToInt, BitVec.reduceEq, BitVec.reduceLT, BitVec.reduceLE, BitVec.reduceAdd, BitVec.reduceSub, BitVec.reduceMul, BitVec.reduceUDiv, BitVec.reduceUMod, BitVec.reduceAnd, BitVec.reduceOr, BitVec.reduceXOr, BitVec.reduceNot, BitVec.reduceNeg, BitVec.reduceHShiftLeft, BitVec.reduceHShiftRight, Nat.reduceAdd, Nat.reduceMul, Nat.reduceSub, Nat.reduceBEq, Nat.reduceEqDiff, Nat.reduceLeDiff, Nat.reduceLT, Int.reduceLE, Int.reduceLT, Int.reduceAdd, Int.reduceSub, Int.reduceMul, Int.reduceNeg, Int.reduceToNat, Int.reduceEq, ↓reduceIte, reduceCtorEq]; repeat (simp (disch := omega) only [w64_d, ipos, ineg, dpos, dneg]; try simp (config := { maxSteps := 10000000 }) only [go_sem, List.reduceReplicate, BitVec.reduceOfInt, BitVec.reduceToNat, BitVec.reduceToInt, BitVec.reduceEq, BitVec.reduceLT, BitVec.reduceLE, BitVec.reduceAdd, BitVec.reduceSub, BitVec.reduceMul, BitVec.reduceUDiv, BitVec.reduceUMod, BitVec.reduceAnd, BitVec.reduceOr, BitVec.reduceXOr, BitVec.reduceNot, BitVec.reduceNeg, BitVec.reduceHShiftLeft, BitVec.reduceHShiftRight, Nat.reduceAdd, Nat.reduceMul, Nat.reduceSub, Nat.reduceBEq, Nat.reduceEqDiff, Nat.reduceLeDiff, Nat.reduceLT, Int.reduceLE, Int.reduceLT, Int.reduceAdd, Int.reduceSub, Int.reduceMul, Int.reduceNeg, Int.reduceToNat, Int.reduceEq, ↓reduceIte, reduceCtorEq]))
    have hI : (k : Int) < 98 := by omega
    have g1 := fm_le row_l (L := List.range 98) (k := k) (by simpa using hlt)
    have g2 := fm_cell row_l (row_at hlt) (i := 0) (by decide)
    have g3 := fm_get row_l (row_at hlt)
    have ec : (List.range 98).flatMap (fun i => rowOp (i + 1)) = rowsC := rfl
    rw [ec] at g1 g2 g3
    rw [rows_len] at g1
    rw [Nat.add_zero] at g2
    have g2' : rowsC.getD (k * 4) .any = .i ((k + 1 : Nat) : Int) := g2
    have g4 : k * 4 + 1 ≤ 392 := by omega
    have g5 : k * 4 + 4 ≤ 392 := by omega
    by_cases he : ((k + 1 : Nat) : Int) = op
    · have rr : rowT op = rowOp (k + 1) := by unfold rowT; rw [if_pos (by omega)]; congr 1; omega
      have one : (rowOp (k + 1)).all Sc.one = true := rfl
      have l4 : (rowOp (k + 1)).length = 4 := rfl
      rw [rr]
      (try simp (config := { maxSteps := 10000000 }) only [go_sem, List.reduceReplicate, BitVec.reduceOfInt, BitVec.reduceToNat, BitVec.reduceToInt, BitVec.reduceEq, BitVec.reduceLT, BitVec.reduceLE, BitVec.reduceAdd, BitVec.reduceSub, BitVec.reduceMul, BitVec.reduceUDiv, BitVec.reduceUMod, BitVec.reduceAnd, BitVec.reduceOr, BitVec.reduceXOr, BitVec.reduceNot, BitVec.reduceNeg, BitVec.reduceHShiftLeft, BitVec.reduceHShiftRight, Nat.reduceAdd, Nat.reduceMul, Nat.reduceSub, Nat.reduceBEq, Nat.reduceEqDiff, Nat.reduceLeDiff, Nat.reduceLT, Int.reduceLE, Int.reduceLT, Int.reduceAdd, Int.reduceSub, Int.reduceMul, Int.reduceNeg, Int.reduceToNat, Int.reduceEq, ↓reduceIte, reduceCtorEq, e1, k0, hI, g2', g3, g4, g5, rows_len, he, one, l4]; repeat (simp (disch := omega) only [w64_d, ipos, ineg, dpos, dneg]; try simp (config := { maxSteps := 10000000 }) only [go_sem, List.reduceReplicate, BitVec.reduceOfInt, BitVec.reduceToNat, BitVec.reduceToInt, BitVec.reduceEq, BitVec.reduceLT, BitVec.reduceLE, BitVec.reduceAdd, BitVec.reduceSub, BitVec.reduceMul, BitVec.reduceUDiv, BitVec.reduceUMod, BitVec.reduceAnd, BitVec.reduceOr, BitVec.reduceXOr, BitVec.reduceNot, BitVec.reduceNeg, BitVec.reduceHShiftLeft, BitVec.reduceHShiftRight, Nat.reduceAdd, Nat.reduceMul, Nat.reduceSub, Nat.reduceBEq, Nat.reduceEqDiff, Nat.reduceLeDiff, Nat.reduceLT, Int.reduceLE, Int.reduceLT, Int.reduceAdd, Int.reduceSub, Int.reduceMul, Int.reduceNeg, Int.reduceToNat, Int.reduceEq, ↓reduceIte, reduceCtorEq, e1, k0, hI, g2', g3, g4, g5, rows_len, he, one, l4]))
      rfl
    · (try simp (config := { maxSteps := 10000000 }) only [go_sem, List.reduceReplicate, BitVec.reduceOfInt, BitVec.reduceToNat, BitVec.reduceToInt, BitVec.reduceEq, BitVec.reduceLT, BitVec.reduceLE, BitVec.reduceAdd, BitVec.reduceSub, BitVec.reduceMul, BitVec.reduceUDiv, BitVec.reduceUMod, BitVec.reduceAnd, BitVec.reduceOr, BitVec.reduceXOr, BitVec.reduceNot, BitVec.reduceNeg, BitVec.reduceHShiftLeft, BitVec.reduceHShiftRight, Nat.reduceAdd, Nat.reduceMul, Nat.reduceSub, Nat.reduceBEq, Nat.reduceEqDiff, Nat.reduceLeDiff, Nat.reduceLT, Int.reduceLE, Int.reduceLT, Int.reduceAdd, Int.reduceSub, Int.reduceMul, Int.reduceNeg, Int.reduceToNat, Int.reduceEq, ↓reduceIte, reduceCtorEq, e1, k0, hI, g2', g4, g5, rows_len, he]; repeat (simp (disch := omega) only [w64_d, ipos, ineg, dpos, dneg]; try simp (config := { maxSteps := 10000000 }) only [go_sem, List.reduceReplicate, BitVec.reduceOfInt, BitVec.reduceToNat, BitVec.reduceToInt, BitVec.reduceEq, BitVec.reduceLT, BitVec.reduceLE, BitVec.reduceAdd, BitVec.reduceSub, BitVec.reduceMul, BitVec.reduceUDiv, BitVec.reduceUMod, BitVec.reduceAnd, BitVec.reduceOr, BitVec.reduceXOr, BitVec.reduceNot, BitVec.reduceNeg, BitVec.reduceHShiftLeft, BitVec.reduceHShiftRight, Nat.reduceAdd, Nat.reduceMul, Nat.reduceSub, Nat.reduceBEq, Nat.reduceEqDiff, Nat.reduceLeDiff, Nat.reduceLT, Int.reduceLE, Int.reduceLT, Int.reduceAdd, Int.reduceSub, Int.reduceMul, Int.reduceNeg, Int.reduceToNat, Int.reduceEq, ↓reduceIte, reduceCtorEq, e1, k0, hI, g2', g4, g5, rows_len, he]))
      exact ⟨k + 1, by omega, by unfold findN at hk ⊢; split at hk <;> split <;> omega, Wk.fr (by simp [Am.get])⟩
  · simp at h
def hasS (f : Nat) : List UInt8 :=
  if f = 1 then [100, 49, 50] else if f = 2 then [100, 49, 105] else if f = 7 then [100, 49, 105] else if f = 8 then [100, 49, 105] else if f = 3 then [49, 50, 105] else if f = 4 then [49, 50, 105] else if f = 5 then [100, 105] else if f = 6 then [100, 105] else if f = 9 then [100, 49, 99] else if f = 10 then [100, 49, 99] else if f = 11 then [100, 49, 50, 113] else if f = 12 then [100, 49, 113] else if f = 14 then [49, 50] else []
def hasT (f : Nat) (c : Int) : Bool := (hasS f).any fun b => decide ((b.toNat : Int) = c)
theorem hasS_len : ∀ f : Nat, f < 15 → (hasS f).length ≤ 4 := by decide
theorem any_hit {a : List UInt8} {c : Int} {k : Nat} (hk : k < a.length) (h : ((a.getD k 0).toNat : Int) = c) : (a.any fun b => decide ((b.toNat : Int) = c)) = true := by
  rw [List.any_eq_true]
  refine ⟨a[k], List.getElem_mem hk, ?_⟩
  rw [List.getD_eq_getElem?_getD, List.getElem?_eq_getElem hk] at h
  simpa using h
theorem any_no {a : List UInt8} {c : Int} (h : ∀ j, j < a.length → ((a.getD j 0).toNat : Int) ≠ c) : (a.any fun b => decide ((b.toNat : Int) = c)) = false := by
  rw [List.any_eq_false]
  intro b hb
  obtain ⟨j, hj, rfl⟩ := List.mem_iff_getElem.1 hb
  have := h j hj
  rw [List.getD_eq_getElem?_getD, List.getElem?_eq_getElem hj] at this
  simpa using this
set_option maxHeartbeats 16000000 in
set_option maxRecDepth 100000 in
def s_rhas (args : List AV) : Option AV :=
  match args with
  | [.c (.s s), .c (.k .u8 c)] => if nmF s < 15 then some (.c (.b (hasT (nmF s) c))) else none
  | _ => none
theorem s_rhas_eq {s c} : s_rhas [.c (.s s), .c (.k .u8 c)] = if nmF s < 15 then some (.c (.b (hasT (nmF s) c))) else none := rfl
set_option maxRecDepth 100000 in
set_option maxHeartbeats 2000000 in
theorem ok_rhas : PuOk Tryz.prog 23 s_rhas := by
  refine pu_ok (tab := []) hmix TabOk.nil Tryz.func23 rfl Tryz.results23 Tryz.ntmps23 (by kernel_rfl) (by kernel_rfl) ?_
  intro args v h
  unfold s_rhas at h
  split at h
  · rename_i s c
    split at h
    · rename_i hc
      simp only [Option.some.injEq] at h; subst h
      refine ⟨by simp only [List.length_cons, List.length_nil]; decide, rfl, rfl, ?_⟩
      obtain ⟨f, hs⟩ : ∃ f, f = nmF s := ⟨_, rfl⟩
      have hsf := nmF_inv hc
      rw [← hs] at hc hsf ⊢
      subst hsf
      clear hs
      have cases : f = 0 ∨ f = 1 ∨ f = 2 ∨ f = 3 ∨ f = 4 ∨ f = 5 ∨ f = 6 ∨ f = 7 ∨ f = 8 ∨ f = 9 ∨ f = 10 ∨ f = 11 ∨ f = 12 ∨ f = 13 ∨ f = 14 := by omega
      rcases cases with rfl | rfl | rfl | rfl | rfl | rfl | rfl | rfl | rfl | rfl | rfl | rfl | rfl | rfl | rfl
      have hl := hasS_len 0 (by decide)
      have e1 : (fn 0 = (⟨#[82]⟩ : ByteArray)) = False := eq_false (by decide)
      have e2 : (fn 0 = (⟨#[73]⟩ : ByteArray)) = False := eq_false (by decide)
      have e3 : (fn 0 = (⟨#[83]⟩ : ByteArray)) = False := eq_false (by decide)
      have e4 : (fn 0 = (⟨#[66]⟩ : ByteArray)) = False := eq_false (by decide)
      have e5 : (fn 0 = (⟨#[85]⟩ : ByteArray)) = False := eq_false (by decide)
      have e6 : (fn 0 = (⟨#[74]⟩ : ByteArray)) = False := eq_false (by decide)
      have e7 : (fn 0 = (⟨#[83, 104, 105, 102, 116]⟩ : ByteArray)) = False := eq_false (by decide)
      have e8 : (fn 0 = (⟨#[83, 104, 105, 102, 116, 87]⟩ : ByteArray)) = False := eq_false (by decide)
      have e9 : (fn 0 = (⟨#[67, 115, 114]⟩ : ByteArray)) = False := eq_false (by decide)
      have e10 : (fn 0 = (⟨#[67, 115, 114, 73]⟩ : ByteArray)) = False := eq_false (by decide)
      have e11 : (fn 0 = (⟨#[65]⟩ : ByteArray)) = False := eq_false (by decide)
      have e12 : (fn 0 = (⟨#[76, 114]⟩ : ByteArray)) = False := eq_false (by decide)
      have e14 : (fn 0 = (⟨#[83, 102, 101, 110, 99, 101]⟩ : ByteArray)) = False := eq_false (by decide)
      (try simp only [go_sem, List.reduceReplicate, Nat.reduceAdd, Nat.reduceMul, Nat.reduceSub, Nat.reduceBEq, Nat.reduceEqDiff, Nat.reduceLeDiff, Nat.reduceLT, Int.reduceLE, Int.reduceLT, Int.reduceAdd, Int.reduceSub, Int.reduceNeg, Int.reduceToNat, Int.reduceEq, ↓reduceIte, reduceCtorEq, e1, e2, e3, e4, e5, e6, e7, e8, e9, e10, e11, e12, e14]; repeat (simp (disch := omega) only [w64_d, ipos, ineg, dpos, dneg]; try simp only [go_sem, List.reduceReplicate, Nat.reduceAdd, Nat.reduceMul, Nat.reduceSub, Nat.reduceBEq, Nat.reduceEqDiff, Nat.reduceLeDiff, Nat.reduceLT, Int.reduceLE, Int.reduceLT, Int.reduceAdd, Int.reduceSub, Int.reduceNeg, Int.reduceToNat, Int.reduceEq, ↓reduceIte, reduceCtorEq, e1, e2, e3, e4, e5, e6, e7, e8, e9, e10, e11, e12, e14]))
      have ea : (⟨#[]⟩ : ByteArray) = ⟨(hasS 0).toArray⟩ := rfl
      have eh : hasT 0 c = (hasS 0).any fun b => decide ((b.toNat : Int) = c) := rfl
      rw [ea, eh]
      generalize hasS 0 = a at *
      clear e1 e2 e3 e4 e5 e6 e7 e8 e9 e10 e11 e12 e14
      rotate_left
      have hl := hasS_len 1 (by decide)
      have e1 : (fn 1 = (⟨#[82]⟩ : ByteArray)) = True := eq_true (by decide)
      have e2 : (fn 1 = (⟨#[73]⟩ : ByteArray)) = False := eq_false (by decide)
      have e3 : (fn 1 = (⟨#[83]⟩ : ByteArray)) = False := eq_false (by decide)
      have e4 : (fn 1 = (⟨#[66]⟩ : ByteArray)) = False := eq_false (by decide)
      have e5 : (fn 1 = (⟨#[85]⟩ : ByteArray)) = False := eq_false (by decide)
      have e6 : (fn 1 = (⟨#[74]⟩ : ByteArray)) = False := eq_false (by decide)
      have e7 : (fn 1 = (⟨#[83, 104, 105, 102, 116]⟩ : ByteArray)) = False := eq_false (by decide)
      have e8 : (fn 1 = (⟨#[83, 104, 105, 102, 116, 87]⟩ : ByteArray)) = False := eq_false (by decide)
      have e9 : (fn 1 = (⟨#[67, 115, 114]⟩ : ByteArray)) = False := eq_false (by decide)
      have e10 : (fn 1 = (⟨#[67, 115, 114, 73]⟩ : ByteArray)) = False := eq_false (by decide)
      have e11 : (fn 1 = (⟨#[65]⟩ : ByteArray)) = False := eq_false (by decide)
      have e12 : (fn 1 = (⟨#[76, 114]⟩ : ByteArray)) = False := eq_false (by decide)
      have e14 : (fn 1 = (⟨#[83, 102, 101, 110, 99, 101]⟩ : ByteArray)) = False := eq_false (by decide)
      (try simp only [go_sem, List.reduceReplicate, Nat.reduceAdd, Nat.reduceMul, Nat.reduceSub, Nat.reduceBEq, Nat.reduceEqDiff, Nat.reduceLeDiff, Nat.reduceLT, Int.reduceLE, Int.reduceLT, Int.reduceAdd, Int.reduceSub, Int.reduceNeg, Int.reduceToNat, Int.reduceEq, ↓reduceIte, reduceCtorEq, e1, e2, e3, e4, e5, e6, e7, e8, e9, e10, e11, e12, e14]; repeat (simp (disch := omega) only [w64_d, ipos, ineg, dpos, dneg]; try simp only [go_sem, List.reduceReplicate, Nat.reduceAdd, Nat.reduceMul, Nat.reduceSub, Nat.reduceBEq, Nat.reduceEqDiff, Nat.reduceLeDiff, Nat.reduceLT, Int.reduceLE, Int.reduceLT, Int.reduceAdd, Int.reduceSub, Int.reduceNeg, Int.reduceToNat, Int.reduceEq, ↓reduceIte, reduceCtorEq, e1, e2, e3, e4, e5, e6, e7, e8, e9, e10, e11, e12, e14]))
      have ea : (⟨#[100, 49, 50]⟩ : ByteArray) = ⟨(hasS 1).toArray⟩ := rfl
      have eh : hasT 1 c = (hasS 1).any fun b => decide ((b.toNat : Int) = c) := rfl
      rw [ea, eh]
      generalize hasS 1 = a at *
      clear e1 e2 e3 e4 e5 e6 e7 e8 e9 e10 e11 e12 e14
      rotate_left
      have hl := hasS_len 2 (by decide)
      have e1 : (fn 2 = (⟨#[82]⟩ : ByteArray)) = False := eq_false (by decide)
      have e2 : (fn 2 = (⟨#[73]⟩ : ByteArray)) = True := eq_true (by decide)
      have e3 : (fn 2 = (⟨#[83]⟩ : ByteArray)) = False := eq_false (by decide)
      have e4 : (fn 2 = (⟨#[66]⟩ : ByteArray)) = False := eq_false (by decide)
      have e5 : (fn 2 = (⟨#[85]⟩ : ByteArray)) = False := eq_false (by decide)
      have e6 : (fn 2 = (⟨#[74]⟩ : ByteArray)) = False := eq_false (by decide)
      have e7 : (fn 2 = (⟨#[83, 104, 105, 102, 116]⟩ : ByteArray)) = False := eq_false (by decide)
      have e8 : (fn 2 = (⟨#[83, 104, 105, 102, 116, 87]⟩ : ByteArray)) = False := eq_false (by decide)
      have e9 : (fn 2 = (⟨#[67, 115, 114]⟩ : ByteArray)) = False := eq_false (by decide)
      have e10 : (fn 2 = (⟨#[67, 115, 114, 73]⟩ : ByteArray)) = False := eq_false (by decide)
      have e11 : (fn 2 = (⟨#[65]⟩ : ByteArray)) = False := eq_false (by decide)
      have e12 : (fn 2 = (⟨#[76, 114]⟩ : ByteArray)) = False := eq_false (by decide)
      have e14 : (fn 2 = (⟨#[83, 102, 101, 110, 99, 101]⟩ : ByteArray)) = False := eq_false (by decide)
      (try simp only [go_sem, List.reduceReplicate, Nat.reduceAdd, Nat.reduceMul, Nat.reduceSub, Nat.reduceBEq, Nat.reduceEqDiff, Nat.reduceLeDiff, Nat.reduceLT, Int.reduceLE, Int.reduceLT, Int.reduceAdd, Int.reduceSub, Int.reduceNeg, Int.reduceToNat, Int.reduceEq, ↓reduceIte, reduceCtorEq, e1, e2, e3, e4, e5, e6, e7, e8, e9, e10, e11, e12, e14]; repeat (simp (disch := omega) only [w64_d, ipos, ineg, dpos, dneg]; try simp only [go_sem, List.reduceReplicate, Nat.reduceAdd, Nat.reduceMul, Nat.reduceSub, Nat.reduceBEq, Nat.reduceEqDiff, Nat.reduceLeDiff, Nat.reduceLT, Int.reduceLE, Int.reduceLT, Int.reduceAdd, Int.reduceSub, Int.reduceNeg, Int.reduceToNat, Int.reduceEq, ↓reduceIte, reduceCtorEq, e1, e2, e3, e4, e5, e6, e7, e8, e9, e10, e11, e12, e14]))
      have ea : (⟨#[100, 49, 105]⟩ : ByteArray) = ⟨(hasS 2).toArray⟩ := rfl
      have eh : hasT 2 c = (hasS 2).any fun b => decide ((b.toNat : Int) = c) := rfl
      rw [ea, eh]
      generalize hasS 2 = a at *
      clear e1 e2 e3 e4 e5 e6 e7 e8 e9 e10 e11 e12 e14
      rotate_left
      have hl := hasS_len 3 (by decide)
      have e1 : (fn 3 = (⟨#[82]⟩ : ByteArray)) = False := eq_false (by decide)
      have e2 : (fn 3 = (⟨#[73]⟩ : ByteArray)) = False := eq_false (by decide)
      have e3 : (fn 3 = (⟨#[83]⟩ : ByteArray)) = True := eq_true (by decide)
      have e4 : (fn 3 = (⟨#[66]⟩ : ByteArray)) = False := eq_false (by decide)
      have e5 : (fn 3 = (⟨#[85]⟩ : ByteArray)) = False := eq_false (by decide)
      have e6 : (fn 3 = (⟨#[74]⟩ : ByteArray)) = False := eq_false (by decide)
      have e7 : (fn 3 = (⟨#[83, 104, 105, 102, 116]⟩ : ByteArray)) = False := eq_false (by decide)
      have e8 : (fn 3 = (⟨#[83, 104, 105, 102, 116, 87]⟩ : ByteArray)) = False := eq_false (by decide)
      have e9 : (fn 3 = (⟨#[67, 115, 114]⟩ : ByteArray)) = False := eq_false (by decide)
      have e10 : (fn 3 = (⟨#[67, 115, 114, 73]⟩ : ByteArray)) = False := eq_false (by decide)
      have e11 : (fn 3 = (⟨#[65]⟩ : ByteArray)) = False := eq_false (by decide)
      have e12 : (fn 3 = (⟨#[76, 114]⟩ : ByteArray)) = False := eq_false (by decide)
      have e14 : (fn 3 = (⟨#[83, 102, 101, 110, 99, 101]⟩ : ByteArray)) = False := eq_false (by decide)
      (try simp only [go_sem, List.reduceReplicate, Nat.reduceAdd, Nat.reduceMul, Nat.reduceSub, Nat.reduceBEq, Nat.reduceEqDiff, Nat.reduceLeDiff, Nat.reduceLT, Int.reduceLE, Int.reduceLT, Int.reduceAdd, Int.reduceSub, Int.reduceNeg, Int.reduceToNat, Int.reduceEq, ↓reduceIte, reduceCtorEq, e1, e2, e3, e4, e5, e6, e7, e8, e9, e10, e11, e12, e14]; repeat (simp (disch := omega) only [w64_d, ipos, ineg, dpos, dneg]; try simp only [go_sem, List.reduceReplicate, Nat.reduceAdd, Nat.reduceMul, Nat.reduceSub, Nat.reduceBEq, Nat.reduceEqDiff, Nat.reduceLeDiff, Nat.reduceLT, Int.reduceLE, Int.reduceLT, Int.reduceAdd, Int.reduceSub, Int.reduceNeg, Int.reduceToNat, Int.reduceEq, ↓reduceIte, reduceCtorEq, e1, e2, e3, e4, e5, e6, e7, e8, e9, e10, e11, e12, e14]))
      have ea : (⟨#[49, 50, 105]⟩ : ByteArray) = ⟨(hasS 3).toArray⟩ := rfl
      have eh : hasT 3 c = (hasS 3).any fun b => decide ((b.toNat : Int) = c) := rfl
      rw [ea, eh]
      generalize hasS 3 = a at *
      clear e1 e2 e3 e4 e5 e6 e7 e8 e9 e10 e11 e12 e14
      rotate_left
      have hl := hasS_len 4 (by decide)
      have e1 : (fn 4 = (⟨#[82]⟩ : ByteArray)) = False := eq_false (by decide)
      have e2 : (fn 4 = (⟨#[73]⟩ : ByteArray)) = False := eq_false (by decide)
      have e3 : (fn 4 = (⟨#[83]⟩ : ByteArray)) = False := eq_false (by decide)
      have e4 : (fn 4 = (⟨#[66]⟩ : ByteArray)) = True := eq_true (by decide)
      have e5 : (fn 4 = (⟨#[85]⟩ : ByteArray)) = False := eq_false (by decide)
      have e6 : (fn 4 = (⟨#[74]⟩ : ByteArray)) = False := eq_false (by decide)
      have e7 : (fn 4 = (⟨#[83, 104, 105, 102, 116]⟩ : ByteArray)) = False := eq_false (by decide)
      have e8 : (fn 4 = (⟨#[83, 104, 105, 102, 116, 87]⟩ : ByteArray)) = False := eq_false (by decide)
      have e9 : (fn 4 = (⟨#[67, 115, 114]⟩ : ByteArray)) = False := eq_false (by decide)
      have e10 : (fn 4 = (⟨#[67, 115, 114, 73]⟩ : ByteArray)) = False := eq_false (by decide)
      have e11 : (fn 4 = (⟨#[65]⟩ : ByteArray)) = False := eq_false (by decide)
      have e12 : (fn 4 = (⟨#[76, 114]⟩ : ByteArray)) = False := eq_false (by decide)
      have e14 : (fn 4 = (⟨#[83, 102, 101, 110, 99, 101]⟩ : ByteArray)) = False := eq_false (by decide)
      (try simp only [go_sem, List.reduceReplicate, Nat.reduceAdd, Nat.reduceMul, Nat.reduceSub, Nat.reduceBEq, Nat.reduceEqDiff, Nat.reduceLeDiff, Nat.reduceLT, Int.reduceLE, Int.reduceLT, Int.reduceAdd, Int.reduceSub, Int.reduceNeg, Int.reduceToNat, Int.reduceEq, ↓reduceIte, reduceCtorEq, e1, e2, e3, e4, e5, e6, e7, e8, e9, e10, e11, e12, e14]; repeat (simp (disch := omega) only [w64_d, ipos, ineg, dpos, dneg]; try simp only [go_sem, List.reduceReplicate, Nat.reduceAdd, Nat.reduceMul, Nat.reduceSub, Nat.reduceBEq, Nat.reduceEqDiff, Nat.reduceLeDiff, Nat.reduceLT, Int.reduceLE, Int.reduceLT, Int.reduceAdd, Int.reduceSub, Int.reduceNeg, Int.reduceToNat, Int.reduceEq, ↓reduceIte, reduceCtorEq, e1, e2, e3, e4, e5, e6, e7, e8, e9, e10, e11, e12, e14]))
      have ea : (⟨#[49, 50, 105]⟩ : ByteArray) = ⟨(hasS 4).toArray⟩ := rfl
      have eh : hasT 4 c = (hasS 4).any fun b => decide ((b.toNat : Int) = c) := rfl
      rw [ea, eh]
      generalize hasS 4 = a at *
      clear e1 e2 e3 e4 e5 e6 e7 e8 e9 e10 e11 e12 e14
      rotate_left
      have hl := hasS_len 5 (by decide)
      have e1 : (fn 5 = (⟨#[82]⟩ : ByteArray)) = False := eq_false (by decide)
      have e2 : (fn 5 = (⟨#[73]⟩ : ByteArray)) = False := eq_false (by decide)
      have e3 : (fn 5 = (⟨#[83]⟩ : ByteArray)) = False := eq_false (by decide)
      have e4 : (fn 5 = (⟨#[66]⟩ : ByteArray)) = False := eq_false (by decide)
      have e5 : (fn 5 = (⟨#[85]⟩ : ByteArray)) = True := eq_true (by decide)
      have e6 : (fn 5 = (⟨#[74]⟩ : ByteArray)) = False := eq_false (by decide)
      have e7 : (fn 5 = (⟨#[83, 104, 105, 102, 116]⟩ : ByteArray)) = False := eq_false (by decide)
      have e8 : (fn 5 = (⟨#[83, 104, 105, 102, 116, 87]⟩ : ByteArray)) = False := eq_false (by decide)
      have e9 : (fn 5 = (⟨#[67, 115, 114]⟩ : ByteArray)) = False := eq_false (by decide)
      have e10 : (fn 5 = (⟨#[67, 115, 114, 73]⟩ : ByteArray)) = False := eq_false (by decide)
      have e11 : (fn 5 = (⟨#[65]⟩ : ByteArray)) = False := eq_false (by decide)
      have e12 : (fn 5 = (⟨#[76, 114]⟩ : ByteArray)) = False := eq_false (by decide)
      have e14 : (fn 5 = (⟨#[83, 102, 101, 110, 99, 101]⟩ : ByteArray)) = False := eq_false (by decide)
      (try simp only [go_sem, List.reduceReplicate, Nat.reduceAdd, Nat.reduceMul, Nat.reduceSub, Nat.reduceBEq, Nat.reduceEqDiff, Nat.reduceLeDiff, Nat.reduceLT, Int.reduceLE, Int.reduceLT, Int.reduceAdd, Int.reduceSub, Int.reduceNeg, Int.reduceToNat, Int.reduceEq, ↓reduceIte, reduceCtorEq, e1, e2, e3, e4, e5, e6, e7, e8, e9, e10, e11, e12, e14]; repeat (simp (disch := omega) only [w64_d, ipos, ineg, dpos, dneg]; try simp only [go_sem, List.reduceReplicate, Nat.reduceAdd, Nat.reduceMul, Nat.reduceSub, Nat.reduceBEq, Nat.reduceEqDiff, Nat.reduceLeDiff, Nat.reduceLT, Int.reduceLE, Int.reduceLT, Int.reduceAdd, Int.reduceSub, Int.reduceNeg, Int.reduceToNat, Int.reduceEq, ↓reduceIte, reduceCtorEq, e1, e2, e3, e4, e5, e6, e7, e8, e9, e10, e11, e12, e14]))
      have ea : (⟨#[100, 105]⟩ : ByteArray) = ⟨(hasS 5).toArray⟩ := rfl
      have eh : hasT 5 c = (hasS 5).any fun b => decide ((b.toNat : Int) = c) := rfl
      rw [ea, eh]
      generalize hasS 5 = a at *
      clear e1 e2 e3 e4 e5 e6 e7 e8 e9 e10 e11 e12 e14
      rotate_left
      have hl := hasS_len 6 (by decide)
      have e1 : (fn 6 = (⟨#[82]⟩ : ByteArray)) = False := eq_false (by decide)
      have e2 : (fn 6 = (⟨#[73]⟩ : ByteArray)) = False := eq_false (by decide)
      have e3 : (fn 6 = (⟨#[83]⟩ : ByteArray)) = False := eq_false (by decide)
      have e4 : (fn 6 = (⟨#[66]⟩ : ByteArray)) = False := eq_false (by decide)
      have e5 : (fn 6 = (⟨#[85]⟩ : ByteArray)) = False := eq_false (by decide)
      have e6 : (fn 6 = (⟨#[74]⟩ : ByteArray)) = True := eq_true (by decide)
      have e7 : (fn 6 = (⟨#[83, 104, 105, 102, 116]⟩ : ByteArray)) = False := eq_false (by decide)
      have e8 : (fn 6 = (⟨#[83, 104, 105, 102, 116, 87]⟩ : ByteArray)) = False := eq_false (by decide)
      have e9 : (fn 6 = (⟨#[67, 115, 114]⟩ : ByteArray)) = False := eq_false (by decide)
      have e10 : (fn 6 = (⟨#[67, 115, 114, 73]⟩ : ByteArray)) = False := eq_false (by decide)
      have e11 : (fn 6 = (⟨#[65]⟩ : ByteArray)) = False := eq_false (by decide)
      have e12 : (fn 6 = (⟨#[76, 114]⟩ : ByteArray)) = False := eq_false (by decide)
      have e14 : (fn 6 = (⟨#[83, 102, 101, 110, 99, 101]⟩ : ByteArray)) = False := eq_false (by decide)
      (try simp only [go_sem, List.reduceReplicate, Nat.reduceAdd, Nat.reduceMul, Nat.reduceSub, Nat.reduceBEq, Nat.reduceEqDiff, Nat.reduceLeDiff, Nat.reduceLT, Int.reduceLE, Int.reduceLT, Int.reduceAdd, Int.reduceSub, Int.reduceNeg, Int.reduceToNat, Int.reduceEq, ↓reduceIte, reduceCtorEq, e1, e2, e3, e4, e5, e6, e7, e8, e9, e10, e11, e12, e14]; repeat (simp (disch := omega) only [w64_d, ipos, ineg, dpos, dneg]; try simp only [go_sem, List.reduceReplicate, Nat.reduceAdd, Nat.reduceMul, Nat.reduceSub, Nat.reduceBEq, Nat.reduceEqDiff, Nat.reduceLeDiff, Nat.reduceLT, Int.reduceLE, Int.reduceLT, Int.reduceAdd, Int.reduceSub, Int.reduceNeg, Int.reduceToNat, Int.reduceEq, ↓reduceIte, reduceCtorEq, e1, e2, e3, e4, e5, e6, e7, e8, e9, e10, e11, e12, e14]))
      have ea : (⟨#[100, 105]⟩ : ByteArray) = ⟨(hasS 6).toArray⟩ := rfl
      have eh : hasT 6 c = (hasS 6).any fun b => decide ((b.toNat : Int) = c) := rfl
      rw [ea, eh]
      generalize hasS 6 = a at *
      clear e1 e2 e3 e4 e5 e6 e7 e8 e9 e10 e11 e12 e14
      rotate_left
      have hl := hasS_len 7 (by decide)
      have e1 : (fn 7 = (⟨#[82]⟩ : ByteArray)) = False := eq_false (by decide)
      have e2 : (fn 7 = (⟨#[73]⟩ : ByteArray)) = False := eq_false (by decide)
      have e3 : (fn 7 = (⟨#[83]⟩ : ByteArray)) = False := eq_false (by decide)
      have e4 : (fn 7 = (⟨#[66]⟩ : ByteArray)) = False := eq_false (by decide)
      have e5 : (fn 7 = (⟨#[85]⟩ : ByteArray)) = False := eq_false (by decide)
      have e6 : (fn 7 = (⟨#[74]⟩ : ByteArray)) = False := eq_false (by decide)
      have e7 : (fn 7 = (⟨#[83, 104, 105, 102, 116]⟩ : ByteArray)) = True := eq_true (by decide)
      have e8 : (fn 7 = (⟨#[83, 104, 105, 102, 116, 87]⟩ : ByteArray)) = False := eq_false (by decide)
      have e9 : (fn 7 = (⟨#[67, 115, 114]⟩ : ByteArray)) = False := eq_false (by decide)
      have e10 : (fn 7 = (⟨#[67, 115, 114, 73]⟩ : ByteArray)) = False := eq_false (by decide)
      have e11 : (fn 7 = (⟨#[65]⟩ : ByteArray)) = False := eq_false (by decide)
      have e12 : (fn 7 = (⟨#[76, 114]⟩ : ByteArray)) = False := eq_false (by decide)
      have e14 : (fn 7 = (⟨#[83, 102, 101, 110, 99, 101]⟩ : ByteArray)) = False := eq_false (by decide)
      (try simp only [go_sem, List.reduceReplicate, Nat.reduceAdd, Nat.reduceMul, Nat.reduceSub, Nat.reduceBEq, Nat.reduceEqDiff, Nat.reduceLeDiff, Nat.reduceLT, Int.reduceLE, Int.reduceLT, Int.reduceAdd, Int.reduceSub, Int.reduceNeg, Int.reduceToNat, Int.reduceEq, ↓reduceIte, reduceCtorEq, e1, e2, e3, e4, e5, e6, e7, e8, e9, e10, e11, e12, e14]; repeat (simp (disch := omega) only [w64_d, ipos, ineg, dpos, dneg]; try simp only [go_sem, List.reduceReplicate, Nat.reduceAdd, Nat.reduceMul, Nat.reduceSub, Nat.reduceBEq, Nat.reduceEqDiff, Nat.reduceLeDiff, Nat.reduceLT, Int.reduceLE, Int.reduceLT, Int.reduceAdd, Int.reduceSub, Int.reduceNeg, Int.reduceToNat, Int.reduceEq, ↓reduceIte, reduceCtorEq, e1, e2, e3, e4, e5, e6, e7, e8, e9, e10, e11, e12, e14]))
      have ea : (⟨#[100, 49, 105]⟩ : ByteArray) = ⟨(hasS 7).toArray⟩ := rfl
      have eh : hasT 7 c = (hasS 7).any fun b => decide ((b.toNat : Int) = c) := rfl
      rw [ea, eh]
      generalize hasS 7 = a at *
      clear e1 e2 e3 e4 e5 e6 e7 e8 e9 e10 e11 e12 e14
      rotate_left
      have hl := hasS_len 8 (by decide)
      have e1 : (fn 8 = (⟨#[82]⟩ : ByteArray)) = False := eq_false (by decide)
      have e2 : (fn 8 = (⟨#[73]⟩ : ByteArray)) = False := eq_false (by decide)
      have e3 : (fn 8 = (⟨#[83]⟩ : ByteArray)) = False := eq_false (by decide)
      have e4 : (fn 8 = (⟨#[66]⟩ : ByteArray)) = False := eq_false (by decide)
      have e5 : (fn 8 = (⟨#[85]⟩ : ByteArray)) = False := eq_false (by decide)
      have e6 : (fn 8 = (⟨#[74]⟩ : ByteArray)) = False := eq_false (by decide)
      have e7 : (fn 8 = (⟨#[83, 104, 105, 102, 116]⟩ : ByteArray)) = False := eq_false (by decide)
      have e8 : (fn 8 = (⟨#[83, 104, 105, 102, 116, 87]⟩ : ByteArray)) = True := eq_true (by decide)
      have e9 : (fn 8 = (⟨#[67, 115, 114]⟩ : ByteArray)) = False := eq_false (by decide)
      have e10 : (fn 8 = (⟨#[67, 115, 114, 73]⟩ : ByteArray)) = False := eq_false (by decide)
      have e11 : (fn 8 = (⟨#[65]⟩ : ByteArray)) = False := eq_false (by decide)
      have e12 : (fn 8 = (⟨#[76, 114]⟩ : ByteArray)) = False := eq_false (by decide)
      have e14 : (fn 8 = (⟨#[83, 102, 101, 110, 99, 101]⟩ : ByteArray)) = False := eq_false (by decide)
      (try simp only [go_sem, List.reduceReplicate, Nat.reduceAdd, Nat.reduceMul, Nat.reduceSub, Nat.reduceBEq, Nat.reduceEqDiff, Nat.reduceLeDiff, Nat.reduceLT, Int.reduceLE, Int.reduceLT, Int.reduceAdd, Int.reduceSub, Int.reduceNeg, Int.reduceToNat, Int.reduceEq, ↓reduceIte, reduceCtorEq, e1, e2, e3, e4, e5, e6, e7, e8, e9, e10, e11, e12, e14]; repeat (simp (disch := omega) only [w64_d, ipos, ineg, dpos, dneg]; try simp only [go_sem, List.reduceReplicate, Nat.reduceAdd, Nat.reduceMul, Nat.reduceSub, Nat.reduceBEq, Nat.reduceEqDiff, Nat.reduceLeDiff, Nat.reduceLT, Int.reduceLE, Int.reduceLT, Int.reduceAdd, Int.reduceSub, Int.reduceNeg, Int.reduceToNat, Int.reduceEq, ↓reduceIte, reduceCtorEq, e1, e2, e3, e4, e5, e6, e7, e8, e9, e10, e11, e12, e14]))
      have ea : (⟨#[100, 49, 105]⟩ : ByteArray) = ⟨(hasS 8).toArray⟩ := rfl
      have eh : hasT 8 c = (hasS 8).any fun b => decide ((b.toNat : Int) = c) := rfl
      rw [ea, eh]
      generalize hasS 8 = a at *
      clear e1 e2 e3 e4 e5 e6 e7 e8 e9 e10 e11 e12 e14
      rotate_left
      have hl := hasS_len 9 (by decide)
      have e1 : (fn 9 = (⟨#[82]⟩ : ByteArray)) = False := eq_false (by decide)
      have e2 : (fn 9 = (⟨#[73]⟩ : ByteArray)) = False := eq_false (by decide)
      have e3 : (fn 9 = (⟨#[83]⟩ : ByteArray)) = False := eq_false (by decide)
      have e4 : (fn 9 = (⟨#[66]⟩ : ByteArray)) = False := eq_false (by decide)
      have e5 : (fn 9 = (⟨#[85]⟩ : ByteArray)) = False := eq_false (by decide)
      have e6 : (fn 9 = (⟨#[74]⟩ : ByteArray)) = False := eq_false (by decide)
      have e7 : (fn 9 = (⟨#[83, 104, 105, 102, 116]⟩ : ByteArray)) = False := eq_false (by decide)
      have e8 : (fn 9 = (⟨#[83, 104, 105, 102, 116, 87]⟩ : ByteArray)) = False := eq_false (by decide)
      have e9 : (fn 9 = (⟨#[67, 115, 114]⟩ : ByteArray)) = True := eq_true (by decide)
      have e10 : (fn 9 = (⟨#[67, 115, 114, 73]⟩ : ByteArray)) = False := eq_false (by decide)
      have e11 : (fn 9 = (⟨#[65]⟩ : ByteArray)) = False := eq_false (by decide)
      have e12 : (fn 9 = (⟨#[76, 114]⟩ : ByteArray)) = False := eq_false (by decide)
      have e14 : (fn 9 = (⟨#[83, 102, 101, 110, 99, 101]⟩ : ByteArray)) = False := eq_false (by decide)
      (try simp only [go_sem, List.reduceReplicate, Nat.reduceAdd, Nat.reduceMul, Nat.reduceSub, Nat.reduceBEq, Nat.reduceEqDiff, Nat.reduceLeDiff, Nat.reduceLT, Int.reduceLE, Int.reduceLT, Int.reduceAdd, Int.reduceSub, Int.reduceNeg, Int.reduceToNat, Int.reduceEq, ↓reduceIte, reduceCtorEq, e1, e2, e3, e4, e5, e6, e7, e8, e9, e10, e11, e12, e14]; repeat (simp (disch := omega) only [w64_d, ipos, ineg, dpos, dneg]; try simp only [go_sem, List.reduceReplicate, Nat.reduceAdd, Nat.reduceMul, Nat.reduceSub, Nat.reduceBEq, Nat.reduceEqDiff, Nat.reduceLeDiff, Nat.reduceLT, Int.reduceLE, Int.reduceLT, Int.reduceAdd, Int.reduceSub, Int.reduceNeg, Int.reduceToNat, Int.reduceEq, ↓reduceIte, reduceCtorEq, e1, e2, e3, e4, e5, e6, e7, e8, e9, e10, e11, e12, e14]))
      have ea : (⟨#[100, 49, 99]⟩ : ByteArray) = ⟨(hasS 9).toArray⟩ := rfl
      have eh : hasT 9 c = (hasS 9).any fun b => decide ((b.toNat : Int) = c) := rfl
      rw [ea, eh]
      generalize hasS 9 = a at *
      clear e1 e2 e3 e4 e5 e6 e7 e8 e9 e10 e11 e12 e14
      rotate_left
      have hl := hasS_len 10 (by decide)
      have e1 : (fn 10 = (⟨#[82]⟩ : ByteArray)) = False := eq_false (by decide)
      have e2 : (fn 10 = (⟨#[73]⟩ : ByteArray)) = False := eq_false (by decide)
      have e3 : (fn 10 = (⟨#[83]⟩ : ByteArray)) = False := eq_false (by decide)
      have e4 : (fn 10 = (⟨#[66]⟩ : ByteArray)) = False := eq_false (by decide)
      have e5 : (fn 10 = (⟨#[85]⟩ : ByteArray)) = False := eq_false (by decide)
      have e6 : (fn 10 = (⟨#[74]⟩ : ByteArray)) = False := eq_false (by decide)
      have e7 : (fn 10 = (⟨#[83, 104, 105, 102, 116]⟩ : ByteArray)) = False := eq_false (by decide)
      have e8 : (fn 10 = (⟨#[83, 104, 105, 102, 116, 87]⟩ : ByteArray)) = False := eq_false (by decide)
      have e9 : (fn 10 = (⟨#[67, 115, 114]⟩ : ByteArray)) = False := eq_false (by decide)
      have e10 : (fn 10 = (⟨#[67, 115, 114, 73]⟩ : ByteArray)) = True := eq_true (by decide)
      have e11 : (fn 10 = (⟨#[65]⟩ : ByteArray)) = False := eq_false (by decide)
      have e12 : (fn 10 = (⟨#[76, 114]⟩ : ByteArray)) = False := eq_false (by decide)
      have e14 : (fn 10 = (⟨#[83, 102, 101, 110, 99, 101]⟩ : ByteArray)) = False := eq_false (by decide)
      (try simp only [go_sem, List.reduceReplicate, Nat.reduceAdd, Nat.reduceMul, Nat.reduceSub, Nat.reduceBEq, Nat.reduceEqDiff, Nat.reduceLeDiff, Nat.reduceLT, Int.reduceLE, Int.reduceLT, Int.reduceAdd, Int.reduceSub, Int.reduceNeg, Int.reduceToNat, Int.reduceEq, ↓reduceIte, reduceCtorEq, e1, e2, e3, e4, e5, e6, e7, e8, e9, e10, e11, e12, e14]; repeat (simp (disch := omega) only [w64_d, ipos, ineg, dpos, dneg]; try simp only [go_sem, List.reduceReplicate, Nat.reduceAdd, Nat.reduceMul, Nat.reduceSub, Nat.reduceBEq, Nat.reduceEqDiff, Nat.reduceLeDiff, Nat.reduceLT, Int.reduceLE, Int.reduceLT, Int.reduceAdd, Int.reduceSub, Int.reduceNeg, Int.reduceToNat, Int.reduceEq, ↓reduceIte, reduceCtorEq, e1, e2, e3, e4, e5, e6, e7, e8, e9, e10, e11, e12, e14]))
      have ea : (⟨#[100, 49, 99]⟩ : ByteArray) = ⟨(hasS 10).toArray⟩ := rfl
      have eh : hasT 10 c = (hasS 10).any fun b => decide ((b.toNat : Int) = c) := rfl
      rw [ea, eh]
      generalize hasS 10 = a at *
      clear e1 e2 e3 e4 e5 e6 e7 e8 e9 e10 e11 e12 e14
      rotate_left
      have hl := hasS_len 11 (by decide)
      have e1 : (fn 11 = (⟨#[82]⟩ : ByteArray)) = False := eq_false (by decide)
      have e2 : (fn 11 = (⟨#[73]⟩ : ByteArray)) = False := eq_false (by decide)
      have e3 : (fn 11 = (⟨#[83]⟩ : ByteArray)) = False := eq_false (by decide)
      have e4 : (fn 11 = (⟨#[66]⟩ : ByteArray)) = False := eq_false (by decide)
      have e5 : (fn 11 = (⟨#[85]⟩ : ByteArray)) = False := eq_false (by decide)
      have e6 : (fn 11 = (⟨#[74]⟩ : ByteArray)) = False := eq_false (by decide)
      have e7 : (fn 11 = (⟨#[83, 104, 105, 102, 116]⟩ : ByteArray)) = False := eq_false (by decide)
      have e8 : (fn 11 = (⟨#[83, 104, 105, 102, 116, 87]⟩ : ByteArray)) = False := eq_false (by decide)
      have e9 : (fn 11 = (⟨#[67, 115, 114]⟩ : ByteArray)) = False := eq_false (by decide)
      have e10 : (fn 11 = (⟨#[67, 115, 114, 73]⟩ : ByteArray)) = False := eq_false (by decide)
      have e11 : (fn 11 = (⟨#[65]⟩ : ByteArray)) = True := eq_true (by decide)
      have e12 : (fn 11 = (⟨#[76, 114]⟩ : ByteArray)) = False := eq_false (by decide)
      have e14 : (fn 11 = (⟨#[83, 102, 101, 110, 99, 101]⟩ : ByteArray)) = False := eq_false (by decide)
      (try simp only [go_sem, List.reduceReplicate, Nat.reduceAdd, Nat.reduceMul, Nat.reduceSub, Nat.reduceBEq, Nat.reduceEqDiff, Nat.reduceLeDiff, Nat.reduceLT, Int.reduceLE, Int.reduceLT, Int.reduceAdd, Int.reduceSub, Int.reduceNeg, Int.reduceToNat, Int.reduceEq, ↓reduceIte, reduceCtorEq, e1, e2, e3, e4, e5, e6, e7, e8, e9, e10, e11, e12, e14]; repeat (simp (disch := omega) only [w64_d, ipos, ineg, dpos, dneg]; try simp only [go_sem, List.reduceReplicate, Nat.reduceAdd, Nat.reduceMul, Nat.reduceSub, Nat.reduceBEq, Nat.reduceEqDiff, Nat.reduceLeDiff, Nat.reduceLT, Int.reduceLE, Int.reduceLT, Int.reduceAdd, Int.reduceSub, Int.reduceNeg, Int.reduceToNat, Int.reduceEq, ↓reduceIte, reduceCtorEq, e1, e2, e3, e4, e5, e6, e7, e8, e9, e10, e11, e12, e14]))
      have ea : (⟨#[100, 49, 50, 113]⟩ : ByteArray) = ⟨(hasS 11).toArray⟩ := rfl
      have eh : hasT 11 c = (hasS 11).any fun b => decide ((b.toNat : Int) = c) := rfl
      rw [ea, eh]
      generalize hasS 11 = a at *
      clear e1 e2 e3 e4 e5 e6 e7 e8 e9 e10 e11 e12 e14
      rotate_left
      have hl := hasS_len 12 (by decide)
      have e1 : (fn 12 = (⟨#[82]⟩ : ByteArray)) = False := eq_false (by decide)
      have e2 : (fn 12 = (⟨#[73]⟩ : ByteArray)) = False := eq_false (by decide)
      have e3 : (fn 12 = (⟨#[83]⟩ : ByteArray)) = False := eq_false (by decide)
      have e4 : (fn 12 = (⟨#[66]⟩ : ByteArray)) = False := eq_false (by decide)
      have e5 : (fn 12 = (⟨#[85]⟩ : ByteArray)) = False := eq_false (by decide)
      have e6 : (fn 12 = (⟨#[74]⟩ : ByteArray)) = False := eq_false (by decide)
      have e7 : (fn 12 = (⟨#[83, 104, 105, 102, 116]⟩ : ByteArray)) = False := eq_false (by decide)
      have e8 : (fn 12 = (⟨#[83, 104, 105, 102, 116, 87]⟩ : ByteArray)) = False := eq_false (by decide)
      have e9 : (fn 12 = (⟨#[67, 115, 114]⟩ : ByteArray)) = False := eq_false (by decide)
      have e10 : (fn 12 = (⟨#[67, 115, 114, 73]⟩ : ByteArray)) = False := eq_false (by decide)
      have e11 : (fn 12 = (⟨#[65]⟩ : ByteArray)) = False := eq_false (by decide)
      have e12 : (fn 12 = (⟨#[76, 114]⟩ : ByteArray)) = True := eq_true (by decide)
      have e14 : (fn 12 = (⟨#[83, 102, 101, 110, 99, 101]⟩ : ByteArray)) = False := eq_false (by decide)
      (try simp only [go_sem, List.reduceReplicate, Nat.reduceAdd, Nat.reduceMul, Nat.reduceSub, Nat.reduceBEq, Nat.reduceEqDiff, Nat.reduceLeDiff, Nat.reduceLT, Int.reduceLE, Int.reduceLT, Int.reduceAdd, Int.reduceSub, Int.reduceNeg, Int.reduceToNat, Int.reduceEq, ↓reduceIte, reduceCtorEq, e1, e2, e3, e4, e5, e6, e7, e8, e9, e10, e11, e12, e14]; repeat (simp (disch := omega) only [w64_d, ipos, ineg, dpos, dneg]; try simp only [go_sem, List.reduceReplicate, Nat.reduceAdd, Nat.reduceMul, Nat.reduceSub, Nat.reduceBEq, Nat.reduceEqDiff, Nat.reduceLeDiff, Nat.reduceLT, Int.reduceLE, Int.reduceLT, Int.reduceAdd, Int.reduceSub, Int.reduceNeg, Int.reduceToNat, Int.reduceEq, ↓reduceIte, reduceCtorEq, e1, e2, e3, e4, e5, e6, e7, e8, e9, e10, e11, e12, e14]))
      have ea : (⟨#[100, 49, 113]⟩ : ByteArray) = ⟨(hasS 12).toArray⟩ := rfl
      have eh : hasT 12 c = (hasS 12).any fun b => decide ((b.toNat : Int) = c) := rfl
      rw [ea, eh]
      generalize hasS 12 = a at *
      clear e1 e2 e3 e4 e5 e6 e7 e8 e9 e10 e11 e12 e14
      rotate_left
      have hl := hasS_len 13 (by decide)
      have e1 : (fn 13 = (⟨#[82]⟩ : ByteArray)) = False := eq_false (by decide)
      have e2 : (fn 13 = (⟨#[73]⟩ : ByteArray)) = False := eq_false (by decide)
      have e3 : (fn 13 = (⟨#[83]⟩ : ByteArray)) = False := eq_false (by decide)
      have e4 : (fn 13 = (⟨#[66]⟩ : ByteArray)) = False := eq_false (by decide)
      have e5 : (fn 13 = (⟨#[85]⟩ : ByteArray)) = False := eq_false (by decide)
      have e6 : (fn 13 = (⟨#[74]⟩ : ByteArray)) = False := eq_false (by decide)
      have e7 : (fn 13 = (⟨#[83, 104, 105, 102, 116]⟩ : ByteArray)) = False := eq_false (by decide)
      have e8 : (fn 13 = (⟨#[83, 104, 105, 102, 116, 87]⟩ : ByteArray)) = False := eq_false (by decide)
      have e9 : (fn 13 = (⟨#[67, 115, 114]⟩ : ByteArray)) = False := eq_false (by decide)
      have e10 : (fn 13 = (⟨#[67, 115, 114, 73]⟩ : ByteArray)) = False := eq_false (by decide)
      have e11 : (fn 13 = (⟨#[65]⟩ : ByteArray)) = False := eq_false (by decide)
      have e12 : (fn 13 = (⟨#[76, 114]⟩ : ByteArray)) = False := eq_false (by decide)
      have e14 : (fn 13 = (⟨#[83, 102, 101, 110, 99, 101]⟩ : ByteArray)) = False := eq_false (by decide)
      (try simp only [go_sem, List.reduceReplicate, Nat.reduceAdd, Nat.reduceMul, Nat.reduceSub, Nat.reduceBEq, Nat.reduceEqDiff, Nat.reduceLeDiff, Nat.reduceLT, Int.reduceLE, Int.reduceLT, Int.reduceAdd, Int.reduceSub, Int.reduceNeg, Int.reduceToNat, Int.reduceEq, ↓reduceIte, reduceCtorEq, e1, e2, e3, e4, e5, e6, e7, e8, e9, e10, e11, e12, e14]; repeat (simp (disch := omega) only [w64_d, ipos, ineg, dpos, dneg]; try simp only [go_sem, List.reduceReplicate, Nat.reduceAdd, Nat.reduceMul, Nat.reduceSub, Nat.reduceBEq, Nat.reduceEqDiff, Nat.reduceLeDiff, Nat.reduceLT, Int.reduceLE, Int.reduceLT, Int.reduceAdd, Int.reduceSub, Int.reduceNeg, Int.reduceToNat, Int.reduceEq, ↓reduceIte, reduceCtorEq, e1, e2, e3, e4, e5, e6, e7, e8, e9, e10, e11, e12, e14]))
      have ea : (⟨#[]⟩ : ByteArray) = ⟨(hasS 13).toArray⟩ := rfl
      have eh : hasT 13 c = (hasS 13).any fun b => decide ((b.toNat : Int) = c) := rfl
      rw [ea, eh]
      generalize hasS 13 = a at *
      clear e1 e2 e3 e4 e5 e6 e7 e8 e9 e10 e11 e12 e14
      rotate_left
      have hl := hasS_len 14 (by decide)
      have e1 : (fn 14 = (⟨#[82]⟩ : ByteArray)) = False := eq_false (by decide)
      have e2 : (fn 14 = (⟨#[73]⟩ : ByteArray)) = False := eq_false (by decide)
      have e3 : (fn 14 = (⟨#[83]⟩ : ByteArray)) = False := eq_false (by decide)
      have e4 : (fn 14 = (⟨#[66]⟩ : ByteArray)) = False := eq_false (by decide)
      have e5 : (fn 14 = (⟨#[85]⟩ : ByteArray)) = False := eq_false (by decide)
      have e6 : (fn 14 = (⟨#[74]⟩ : ByteArray)) = False := eq_false (by decide)
      have e7 : (fn 14 = (⟨#[83, 104, 105, 102, 116]⟩ : ByteArray)) = False := eq_false (by decide)
      have e8 : (fn 14 = (⟨#[83, 104, 105, 102, 116, 87]⟩ : ByteArray)) = False := eq_false (by decide)
      have e9 : (fn 14 = (⟨#[67, 115, 114]⟩ : ByteArray)) = False := eq_false (by decide)
      have e10 : (fn 14 = (⟨#[67, 115, 114, 73]⟩ : ByteArray)) = False := eq_false (by decide)
      have e11 : (fn 14 = (⟨#[65]⟩ : ByteArray)) = False := eq_false (by decide)
      have e12 : (fn 14 = (⟨#[76, 114]⟩ : ByteArray)) = False := eq_false (by decide)
      have e14 : (fn 14 = (⟨#[83, 102, 101, 110, 99, 101]⟩ : ByteArray)) = True := eq_true (by decide)
      (try simp only [go_sem, List.reduceReplicate, Nat.reduceAdd, Nat.reduceMul, Nat.reduceSub, Nat.reduceBEq, Nat.reduceEqDiff, Nat.reduceLeDiff, Nat.reduceLT, Int.reduceLE, Int.reduceLT, Int.reduceAdd, Int.reduceSub, Int.reduceNeg, Int.reduceToNat, Int.reduceEq, ↓reduceIte, reduceCtorEq, e1, e2, e3, e4, e5, e6, e7, e8, e9, e10, e11, e12, e14]; repeat (simp (disch := omega) only [w64_d, ipos, ineg, dpos, dneg]; try simp only [go_sem, List.reduceReplicate, Nat.reduceAdd, Nat.reduceMul, Nat.reduceSub, Nat.reduceBEq, Nat.reduceEqDiff, Nat.reduceLeDiff, Nat.reduceLT, Int.reduceLE, Int.reduceLT, Int.reduceAdd, Int.reduceSub, Int.reduceNeg, Int.reduceToNat, Int.reduceEq, ↓reduceIte, reduceCtorEq, e1, e2, e3, e4, e5, e6, e7, e8, e9, e10, e11, e12, e14]))
      have ea : (⟨#[49, 50]⟩ : ByteArray) = ⟨(hasS 14).toArray⟩ := rfl
      have eh : hasT 14 c = (hasS 14).any fun b => decide ((b.toNat : Int) = c) := rfl
      rw [ea, eh]
      generalize hasS 14 = a at *
      clear e1 e2 e3 e4 e5 e6 e7 e8 e9 e10 e11 e12 e14
      rotate_left
      all_goals
        have sz : (⟨a.toArray⟩ : ByteArray).size = a.length := rfl
        rw [arun_loop]
        refine ⟨{k : Nat // k ≤ a.length ∧ ∀ j, j < k → ((a.getD j 0).toNat : Int) ≠ c}, fun k => ([(1, .c (.k .u8 c)), (4, .c (.b false)), (5, .c (.s ⟨a.toArray⟩)), (6, .c (.i k.1))], []), fun k => a.length - k.1, ⟨0, by omega, by omega⟩, Wk.fr (by simp [Am.get]), ?_⟩
        rintro ⟨k, hk, hj⟩
        by_cases hlt : k < a.length
        · have e1 : w64 ((k : Int) + 1) = ((k + 1 : Nat) : Int) := by rw [w64_of (by omega)]; omega
          have k0 : (0 : Int) ≤ (k : Int) := by omega
          have hI : (k : Int) < (a.length : Int) := by omega
          have ga : (⟨a.toArray⟩ : ByteArray).data.getD k 0 = a.getD k 0 := by simp [Array.getD, List.getD_eq_getElem?_getD, hlt]
          by_cases he : ((a.getD k 0).toNat : Int) = c
          · have rr := any_hit hlt he
            (try simp only [go_sem, List.reduceReplicate, Nat.reduceAdd, Nat.reduceMul, Nat.reduceSub, Nat.reduceBEq, Nat.reduceEqDiff, Nat.reduceLeDiff, Nat.reduceLT, Int.reduceLE, Int.reduceLT, Int.reduceAdd, Int.reduceSub, Int.reduceNeg, Int.reduceToNat, Int.reduceEq, ↓reduceIte, reduceCtorEq, e1, k0, hI, sz, ga, he, rr]; repeat (simp (disch := omega) only [w64_d, ipos, ineg, dpos, dneg]; try simp only [go_sem, List.reduceReplicate, Nat.reduceAdd, Nat.reduceMul, Nat.reduceSub, Nat.reduceBEq, Nat.reduceEqDiff, Nat.reduceLeDiff, Nat.reduceLT, Int.reduceLE, Int.reduceLT, Int.reduceAdd, Int.reduceSub, Int.reduceNeg, Int.reduceToNat, Int.reduceEq, ↓reduceIte, reduceCtorEq, e1, k0, hI, sz, ga, he, rr]))
          · (try simp only [go_sem, List.reduceReplicate, Nat.reduceAdd, Nat.reduceMul, Nat.reduceSub, Nat.reduceBEq, Nat.reduceEqDiff, Nat.reduceLeDiff, Nat.reduceLT, Int.reduceLE, Int.reduceLT, Int.reduceAdd, Int.reduceSub, Int.reduceNeg, Int.reduceToNat, Int.reduceEq, ↓reduceIte, reduceCtorEq, e1, k0, hI, sz, ga, he]; repeat (simp (disch := omega) only [w64_d, ipos, ineg, dpos, dneg]; try simp only [go_sem, List.reduceReplicate, Nat.reduceAdd, Nat.reduceMul, Nat.reduceSub, Nat.reduceBEq, Nat.reduceEqDiff, Nat.reduceLeDiff, Nat.reduceLT, Int.reduceLE, Int.reduceLT, Int.reduceAdd, Int.reduceSub, Int.reduceNeg, Int.reduceToNat, Int.reduceEq, ↓reduceIte, reduceCtorEq, e1, k0, hI, sz, ga, he]))
            exact ⟨⟨k + 1, by omega, fun j hjk => (Nat.lt_or_ge j k).elim (fun h => hj j h) (fun h => by have e : j = k := Nat.le_antisymm (Nat.lt_succ_iff.1 hjk) h; rw [e]; exact he)⟩, by simp only; omega, Wk.fr (by simp [Am.get])⟩
        · obtain rfl : k = a.length := by omega
          have rr := any_no hj
          (try simp only [go_sem, List.reduceReplicate, Nat.reduceAdd, Nat.reduceMul, Nat.reduceSub, Nat.reduceBEq, Nat.reduceEqDiff, Nat.reduceLeDiff, Nat.reduceLT, Int.reduceLE, Int.reduceLT, Int.reduceAdd, Int.reduceSub, Int.reduceNeg, Int.reduceToNat, Int.reduceEq, ↓reduceIte, reduceCtorEq, sz, rr]; repeat (simp (disch := omega) only [w64_d, ipos, ineg, dpos, dneg]; try simp only [go_sem, List.reduceReplicate, Nat.reduceAdd, Nat.reduceMul, Nat.reduceSub, Nat.reduceBEq, Nat.reduceEqDiff, Nat.reduceLeDiff, Nat.reduceLT, Int.reduceLE, Int.reduceLT, Int.reduceAdd, Int.reduceSub, Int.reduceNeg, Int.reduceToNat, Int.reduceEq, ↓reduceIte, reduceCtorEq, sz, rr]))
    · simp at h
  · simp at h
end
end Go.Proofs.YtjlbgjhnhhihoaaGreat
