/- Layer 13: the reference's lines, by the least that is more than the last: contract. -/
import Derived.Test.YtbnfapacbfeabaaRv5
namespace Go.Proofs.Ytbnfapacbfeabaa
open Go.Am
set_option linter.unusedSimpArgs false
set_option linter.unusedVariables false
noncomputable section

section
variable {α : Type} {lt : α → α → Bool}
theorem insR_perm {x : α} {P : List α} : (insR lt x P).Perm (x :: P) := by
  unfold insR
  refine List.perm_middle.trans ?_
  rw [List.take_append_drop]
theorem preS_perm {A : List α} : ∀ {i : Nat}, i ≤ A.length → (preS lt A i).Perm (A.take i)
  | 0, _ => by simp [preS]
  | i + 1, hi => by
    have e : A[i]? = some A[i] := List.getElem?_eq_getElem (by omega)
    simp only [preS, e]
    rw [List.take_succ_eq_append_getElem (by omega)]
    exact insR_perm.trans (((preS_perm (show i ≤ A.length by omega)).cons _).trans (List.perm_append_singleton _ _).symm)
theorem srt_perm {A : List α} : (srt lt A).Perm A := by
  have := preS_perm (lt := lt) (Nat.le_refl A.length)
  rwa [List.take_length] at this
theorem srt_strict (h : Lin lt) {A : List α} (hA : A.Nodup) : (srt lt A).Pairwise fun x y => lt x y = true := by
  have h1 := srt_sorted h (A := A)
  have h2 : (srt lt A).Pairwise (· ≠ ·) := (srt_perm (lt := lt)).nodup_iff.2 hA
  refine (h1.and h2).imp fun {x y} hh => ?_
  cases e : lt x y with
  | true => rfl
  | false => exact (hh.2 (h.tot _ _ e hh.1)).elim
/-- the place of the first of the least, of the first k -/
def bst (lt : α → α → Bool) (C : Nat → Bool) (L : Nat → α) : Nat → Option Nat
  | 0 => none
  | k + 1 => match bst lt C L k with
    | none => if C k = true then some k else none
    | some j => if C k = true ∧ lt (L k) (L j) = true then some k else some j
theorem bst_none {C : Nat → Bool} {L : Nat → α} : ∀ {k : Nat}, bst lt C L k = none → ∀ i, i < k → C i = false
  | 0, _, i, h => by omega
  | k + 1, h, i, hi => by
    simp only [bst] at h
    split at h
    · rename_i e
      split at h
      · simp at h
      · rename_i hc
        rcases Nat.lt_or_ge i k with h1 | h1
        · exact bst_none e i h1
        · obtain rfl : i = k := by omega
          simpa using hc
    · split at h <;> simp at h
theorem bst_some (hl : Lin lt) {C : Nat → Bool} {L : Nat → α} : ∀ {k j : Nat}, bst lt C L k = some j → j < k ∧ C j = true ∧ ∀ i, i < k → C i = true → lt (L i) (L j) = false
  | 0, j, h => by simp [bst] at h
  | k + 1, j, h => by
    simp only [bst] at h
    split at h
    · rename_i e
      split at h
      · rename_i hc
        simp only [Option.some.injEq] at h; subst h
        refine ⟨by omega, hc, fun i hi ci => ?_⟩
        rcases Nat.lt_or_ge i k with h1 | h1
        · rw [bst_none e i h1] at ci; simp at ci
        · obtain rfl : i = k := by omega
          exact hl.irr _
      · simp at h
    · rename_i j' e
      obtain ⟨a1, a2, a3⟩ := bst_some hl e
      split at h
      · rename_i hc
        simp only [Option.some.injEq] at h; subst h
        refine ⟨by omega, hc.1, fun i hi ci => ?_⟩
        rcases Nat.lt_or_ge i k with h1 | h1
        · cases e2 : lt (L i) (L k) with
          | false => rfl
          | true => have := a3 i h1 ci; rw [hl.tr _ _ _ e2 hc.2] at this; simp at this
        · obtain rfl : i = k := by omega
          exact hl.irr _
      · rename_i hc
        simp only [Option.some.injEq] at h; subst h
        refine ⟨by omega, a2, fun i hi ci => ?_⟩
        rcases Nat.lt_or_ge i k with h1 | h1
        · exact a3 i h1 ci
        · obtain rfl : i = k := by omega
          cases e2 : lt (L i) (L j') with
          | false => rfl
          | true => exact (hc ⟨ci, e2⟩).elim
theorem strict_get (h : Lin lt) {D : List α} (hD : D.Pairwise fun x y => lt x y = true) {i j : Nat} {x y : α} (hx : D[i]? = some x) (hy : D[j]? = some y) : lt x y = true ↔ i < j := by
  have hx1 : i < D.length := (List.getElem?_eq_some_iff.1 hx).1
  have hy1 : j < D.length := (List.getElem?_eq_some_iff.1 hy).1
  rw [List.getElem?_eq_getElem hx1] at hx
  rw [List.getElem?_eq_getElem hy1] at hy
  simp only [Option.some.injEq] at hx hy
  subst hx hy
  rw [List.pairwise_iff_getElem] at hD
  constructor
  · intro hlt
    rcases Nat.lt_trichotomy i j with h1 | h1 | h1
    · exact h1
    · subst h1; rw [h.irr] at hlt; simp at hlt
    · rw [h.asym (hD j i hy1 hx1 h1)] at hlt; simp at hlt
  · exact fun h1 => hD i j hx1 hy1 h1
end
/-- is a slot one of those of which a line may be picked? -/
def canB (R : List Sl) (O : List (BitVec 64)) (k : Nat) : Bool := (at8 R k).is && (match O.getLast? with
  | some a => ltU a (at8 R k).ln
  | none => true)
def bstN (R : List Sl) (O : List (BitVec 64)) (k : Nat) : Option Nat := bst ltU (canB R O) (fun k => (at8 R k).ln) k
def encO : Option Nat → Int
  | some j => j
  | none => -1
theorem linO_mem {R : List Sl} {l : BitVec 64} (hR : R.length = 8) : l ∈ srt ltU (linN R 8) ↔ ∃ j : Nat, j < 8 ∧ (at8 R j).is = true ∧ (at8 R j).ln = l := by
  rw [srt_mem, linN_mem]
  constructor
  · rintro ⟨j, y, h1, h2, h3, h4⟩
    exact ⟨j, h1, by rw [at8_k h1 h2]; exact h3, by rw [at8_k h1 h2]; exact h4⟩
  · rintro ⟨j, h1, h3, h4⟩
    obtain ⟨y, hy⟩ := sl_some hR h1
    rw [at8_k h1 hy] at h3 h4
    exact ⟨j, y, h1, hy, h3, h4⟩
theorem take_last {α : Type} {D : List α} {n : Nat} (h : n < D.length) : (D.take (n + 1)).getLast? = some D[n] := by
  rw [List.take_succ_eq_append_getElem h]; exact List.getLast?_concat ..
theorem can_iff {R : List Sl} {n : Nat} {k : Nat} (hn : n ≤ (srt ltU (linN R 8)).length) (hR : R.length = 8) (hk : k < 8) : canB R ((srt ltU (linN R 8)).take n) k = true ↔ (at8 R k).is = true ∧ ∃ m, n ≤ m ∧ (srt ltU (linN R 8))[m]? = some (at8 R k).ln := by
  have hS := srt_strict linU (linN_nodup (R := R) (k := 8))
  have hM := fun l => linO_mem (l := l) hR
  generalize srt ltU (linN R 8) = D at hn hS hM ⊢
  unfold canB
  rw [Bool.and_eq_true]
  constructor
  · rintro ⟨h1, h2⟩
    refine ⟨h1, ?_⟩
    obtain ⟨m, hm⟩ := List.mem_iff_getElem?.1 ((hM _).2 ⟨k, hk, h1, rfl⟩)
    refine ⟨m, ?_, hm⟩
    cases n with
    | zero => omega
    | succ n =>
      rw [take_last (by omega)] at h2
      simp only at h2
      have := (strict_get linU hS (List.getElem?_eq_getElem (show n < D.length by omega)) hm).1 h2
      omega
  · rintro ⟨h1, m, hm1, hm⟩
    refine ⟨h1, ?_⟩
    cases n with
    | zero => simp
    | succ n =>
      rw [take_last (by omega)]
      exact (strict_get linU hS (List.getElem?_eq_getElem (show n < D.length by omega)) hm).2 (by omega)
theorem bstN_end {R : List Sl} (hR : R.length = 8) : bstN R (srt ltU (linN R 8)) 8 = none := by
  cases e : bstN R (srt ltU (linN R 8)) 8 with
  | none => rfl
  | some j =>
    obtain ⟨h1, h2, _⟩ := bst_some linU e
    have := (can_iff (n := (srt ltU (linN R 8)).length) (Nat.le_refl _) hR h1).1 (by rw [List.take_length]; exact h2)
    obtain ⟨_, m, h3, h4⟩ := this
    have := (List.getElem?_eq_some_iff.1 h4).1
    omega
theorem bstN_mid {R : List Sl} {n : Nat} (hR : R.length = 8) (hn : n < (srt ltU (linN R 8)).length) : ∃ j, bstN R ((srt ltU (linN R 8)).take n) 8 = some j ∧ j < 8 ∧ (srt ltU (linN R 8))[n]? = some (at8 R j).ln := by
  have hS := srt_strict linU (linN_nodup (R := R) (k := 8))
  have hM := fun l => linO_mem (l := l) hR
  have hD := List.getElem?_eq_getElem hn
  obtain ⟨i, i1, i2, i3⟩ := (hM _).1 (List.mem_iff_getElem?.2 ⟨n, hD⟩)
  have ci := (can_iff (n := n) (by omega) hR i1).2 ⟨i2, n, Nat.le_refl _, by rw [i3]; exact hD⟩
  cases e : bstN R ((srt ltU (linN R 8)).take n) 8 with
  | none => have := bst_none e i i1; rw [ci] at this; simp at this
  | some j =>
    obtain ⟨h1, h2, h3⟩ := bst_some linU e
    obtain ⟨h4, m, h5, h6⟩ := (can_iff (n := n) (by omega) hR h1).1 h2
    refine ⟨j, rfl, h1, ?_⟩
    have h7 := h3 i i1 ci
    simp only [i3] at h7
    rcases Nat.lt_or_ge n m with h8 | h8
    · rw [(strict_get linU hS hD h6).2 h8] at h7; simp at h7
    · obtain rfl : n = m := by omega
      exact h6
def s_vrlines (args : List AV) (H : AH) : Option (AV × AH) :=
  match args with
  | [.g l] => if isRf l then some (.c (.sl H.length 0 (linO (some (rfT l))).length (linO (some (rfT l))).length), H ++ [.vec 1 ((linO (some (rfT l))).map gU)]) else none
  | _ => none
theorem s_vrlines_eq {H : AH} {R : List Sl} (hR : R.length = 8) : s_vrlines [.g (refC R)] H = some (.c (.sl H.length 0 (linO (some R)).length (linO (some R)).length), H ++ [.vec 1 ((linO (some R)).map gU)]) := by
  simp only [s_vrlines, isRf_of hR, rfT_of hR, if_true]
theorem len_vrlines (args : List AV) (H : AH) (v : AV) (H1 : AH) (h : s_vrlines args H = some (v, H1)) : H.length ≤ H1.length := by
  unfold s_vrlines at h
  repeat' split at h
  all_goals simp at h
  rw [← h.2]; simp
set_option maxHeartbeats 8000000 in
set_option maxRecDepth 100000 in
set_option maxHeartbeats 2000000 in
theorem ok_vrlines : FpOk Try.prog 20 s_vrlines := by
  refine fp_ok (s := s_vrlines) (tab := []) hmix TabOk.nil Try.func20 rfl Try.results20 Try.ntmps20 (by kernel_rfl) (by kernel_rfl) len_vrlines ?_
  intro args H v H1 h hargs hH
  unfold s_vrlines at h
  split at h
  · rename_i l
    split at h
    · rename_i hc
      simp only [Option.some.injEq, Prod.mk.injEq] at h
      obtain ⟨rfl, rfl⟩ := h
      obtain ⟨R, hR, rfl⟩ := hc
      rw [rfT_of hR]
      refine ⟨by simp only [List.length_cons, List.length_nil]; decide, ?_⟩
      have lR := refC_l hR
      have bb : ∀ L : List (BitVec 64), belH (H ++ [.own (refC R), .vec 1 (L.map gU)]) = true := fun L => belH_app hH (by simp only [List.mem_cons, List.not_mem_nil, or_false, forall_eq_or_imp, forall_eq]; exact ⟨refC_bel, map_bel gU_num _ _⟩)
      have l8 : (srt ltU (linN R 8)).length ≤ 8 := by rw [srt_len]; exact linN_len
      have bE := bstN_end hR
      have bM := fun n => bstN_mid (n := n) hR
      simp only [linO]
      generalize srt ltU (linN R 8) = D at l8 bE bM ⊢
      (try simp (config := { maxSteps := 10000000 }) only [go_sem, List.reduceReplicate, BitVec.reduceOfInt, BitVec.reduceToNat, BitVec.reduceToInt, BitVec.reduceEq, BitVec.reduceLT, BitVec.reduceLE, BitVec.reduceAdd, BitVec.reduceSub, BitVec.reduceMul, BitVec.reduceUDiv, BitVec.reduceUMod, BitVec.reduceAnd, BitVec.reduceOr, BitVec.reduceXOr, BitVec.reduceNot, BitVec.reduceNeg, BitVec.reduceHShiftLeft, BitVec.reduceHShiftRight, Nat.reduceAdd, Nat.reduceMul, Nat.reduceSub, Nat.reduceBEq, Nat.reduceEqDiff, Nat.reduceLeDiff, Nat.reduceLT, Int.reduceLE, Int.reduceLT, Int.reduceAdd, Int.reduceSub, Int.reduceMul, Int.reduceNeg, Int.reduceToNat, Int.reduceEq, ↓reduceIte, reduceCtorEq]; repeat (simp (disch := omega) only [w64_d, ipos, ineg, dpos, dneg]; try simp (config := { maxSteps := 10000000 }) only [go_sem, List.reduceReplicate, BitVec.reduceOfInt, BitVec.reduceToNat, BitVec.reduceToInt, BitVec.reduceEq, BitVec.reduceLT, BitVec.reduceLE, BitVec.reduceAdd, BitVec.reduceSub, BitVec.reduceMul, BitVec.reduceUDiv, BitVec.reduceUMod, BitVec.reduceAnd, BitVec.reduceOr, BitVec.reduceXOr, BitVec.reduceNot, BitVec.reduceNeg, BitVec.reduceHShiftLeft, BitVec.reduceHShiftRight, Nat.reduceAdd, Nat.reduceMul, Nat.reduceSub, Nat.reduceBEq, Nat.reduceEqDiff, Nat.reduceLeDiff, Nat.reduceLT, Int.reduceLE, Int.reduceLT, Int.reduceAdd, Int.reduceSub, Int.reduceMul, Int.reduceNeg, Int.reduceToNat, Int.reduceEq, ↓reduceIte, reduceCtorEq]))
      refine arun_for D.length (fun n => ([(1, .c (.p H.length 0 0)), (3, .c (.sl (H.length + 1) 0 n n)), (4, .c (.i n))], H ++ [.own (refC R), .vec 1 ((D.take n).map gU)])) ?_ fun n hn => ?_
      · exact Wk.trans (Wk.nil 3 1 (by decide) rfl (by simp [lo])) (Wk.wk (by simp [lo]) (by simp [Am.get]) (by simp [AV.bel, Sc.bel]) (by rw [List.append_assoc]; exact subH_refl _) (bb _))
      · have ln : (D.take n).length = n := by rw [List.length_take]; omega
        by_cases hn8 : n < 8
        · have e0 : (n : Int) < 8 := by omega
          (try simp (config := { maxSteps := 10000000 }) only [go_sem, List.reduceReplicate, BitVec.reduceOfInt, BitVec.reduceToNat, BitVec.reduceToInt, BitVec.reduceEq, BitVec.reduceLT, BitVec.reduceLE, BitVec.reduceAdd, BitVec.reduceSub, BitVec.reduceMul, BitVec.reduceUDiv, BitVec.reduceUMod, BitVec.reduceAnd, BitVec.reduceOr, BitVec.reduceXOr, BitVec.reduceNot, BitVec.reduceNeg, BitVec.reduceHShiftLeft, BitVec.reduceHShiftRight, Nat.reduceAdd, Nat.reduceMul, Nat.reduceSub, Nat.reduceBEq, Nat.reduceEqDiff, Nat.reduceLeDiff, Nat.reduceLT, Int.reduceLE, Int.reduceLT, Int.reduceAdd, Int.reduceSub, Int.reduceMul, Int.reduceNeg, Int.reduceToNat, Int.reduceEq, ↓reduceIte, reduceCtorEq, e0]; repeat (simp (disch := omega) only [w64_d, ipos, ineg, dpos, dneg]; try simp (config := { maxSteps := 10000000 }) only [go_sem, List.reduceReplicate, BitVec.reduceOfInt, BitVec.reduceToNat, BitVec.reduceToInt, BitVec.reduceEq, BitVec.reduceLT, BitVec.reduceLE, BitVec.reduceAdd, BitVec.reduceSub, BitVec.reduceMul, BitVec.reduceUDiv, BitVec.reduceUMod, BitVec.reduceAnd, BitVec.reduceOr, BitVec.reduceXOr, BitVec.reduceNot, BitVec.reduceNeg, BitVec.reduceHShiftLeft, BitVec.reduceHShiftRight, Nat.reduceAdd, Nat.reduceMul, Nat.reduceSub, Nat.reduceBEq, Nat.reduceEqDiff, Nat.reduceLeDiff, Nat.reduceLT, Int.reduceLE, Int.reduceLT, Int.reduceAdd, Int.reduceSub, Int.reduceMul, Int.reduceNeg, Int.reduceToNat, Int.reduceEq, ↓reduceIte, reduceCtorEq, e0]))
          refine arun_for 8 (fun k => ([(1, .c (.p H.length 0 0)), (3, .c (.sl (H.length + 1) 0 n n)), (4, .c (.i n)), (5, .c (.i (encO (bstN R (D.take n) k)))), (6, .c (.i k))], H ++ [.own (refC R), .vec 1 ((D.take n).map gU)])) ?_ fun k hk => ?_
          · exact Wk.wk (by simp [lo]) (by simp [Am.get, bstN, bst, encO]) (by simp [AV.bel, Sc.bel]) (subH_refl _) (bb _)
          · by_cases hlt : k < 8
            · have e1 : (k : Int) < 8 := by omega
              have e4 : (0 : Int) ≤ k := by omega
              have e2 : w64 ((k : Int) + 1) = ((k + 1 : Nat) : Int) := by rw [w64_d (by omega) (by omega)]; omega
              obtain ⟨y, hy⟩ := sl_some hR hlt
              have ya := at8_k hlt hy
              obtain ⟨c0, c1⟩ := refC_cell hR hy
              have sB : bstN R (D.take n) (k + 1) = match bstN R (D.take n) k with
                | none => if canB R (D.take n) k = true then some k else none
                | some j => if canB R (D.take n) k = true ∧ ltU (at8 R k).ln (at8 R j).ln = true then some k else some j := rfl
              cases hy1 : y.is
              · rw [hy1] at c0
                have cF : canB R (D.take n) k = false := by unfold canB; rw [ya, hy1]; rfl
                (try simp (config := { maxSteps := 10000000 }) only [go_sem, List.reduceReplicate, BitVec.reduceOfInt, BitVec.reduceToNat, BitVec.reduceToInt, BitVec.reduceEq, BitVec.reduceLT, BitVec.reduceLE, BitVec.reduceAdd, BitVec.reduceSub, BitVec.reduceMul, BitVec.reduceUDiv, BitVec.reduceUMod, BitVec.reduceAnd, BitVec.reduceOr, BitVec.reduceXOr, BitVec.reduceNot, BitVec.reduceNeg, BitVec.reduceHShiftLeft, BitVec.reduceHShiftRight, Nat.reduceAdd, Nat.reduceMul, Nat.reduceSub, Nat.reduceBEq, Nat.reduceEqDiff, Nat.reduceLeDiff, Nat.reduceLT, Int.reduceLE, Int.reduceLT, Int.reduceAdd, Int.reduceSub, Int.reduceMul, Int.reduceNeg, Int.reduceToNat, Int.reduceEq, ↓reduceIte, reduceCtorEq, e1, e2, e4, c0, lR, Int.toNat_natCast]; repeat (simp (disch := omega) only [w64_d, ipos, ineg, dpos, dneg]; try simp (config := { maxSteps := 10000000 }) only [go_sem, List.reduceReplicate, BitVec.reduceOfInt, BitVec.reduceToNat, BitVec.reduceToInt, BitVec.reduceEq, BitVec.reduceLT, BitVec.reduceLE, BitVec.reduceAdd, BitVec.reduceSub, BitVec.reduceMul, BitVec.reduceUDiv, BitVec.reduceUMod, BitVec.reduceAnd, BitVec.reduceOr, BitVec.reduceXOr, BitVec.reduceNot, BitVec.reduceNeg, BitVec.reduceHShiftLeft, BitVec.reduceHShiftRight, Nat.reduceAdd, Nat.reduceMul, Nat.reduceSub, Nat.reduceBEq, Nat.reduceEqDiff, Nat.reduceLeDiff, Nat.reduceLT, Int.reduceLE, Int.reduceLT, Int.reduceAdd, Int.reduceSub, Int.reduceMul, Int.reduceNeg, Int.reduceToNat, Int.reduceEq, ↓reduceIte, reduceCtorEq, e1, e2, e4, c0, lR, Int.toNat_natCast]))
                refine ⟨k + 1, by omega, by omega, ?_⟩
                have sB' : bstN R (D.take n) (k + 1) = bstN R (D.take n) k := by
                  rw [sB, cF]; cases bstN R (D.take n) k <;> simp
                rw [sB']
                exact Wk.wk (by simp [lo]) (by simp [Am.get]) (by simp [AV.bel, Sc.bel]) (subH_refl _) (bb _)
              · rw [hy1] at c0
                cases n with
                | zero =>
                  have cT : canB R (D.take 0) k = true := by unfold canB; rw [ya, hy1]; rfl
                  rw [cT] at sB
                  cases hb : bstN R (D.take 0) k with
                  | none =>
                    rw [hb] at sB
                    simp only [if_true] at sB
                    (try simp (config := { maxSteps := 10000000 }) only [go_sem, List.reduceReplicate, BitVec.reduceOfInt, BitVec.reduceToNat, BitVec.reduceToInt, BitVec.reduceEq, BitVec.reduceLT, BitVec.reduceLE, BitVec.reduceAdd, BitVec.reduceSub, BitVec.reduceMul, BitVec.reduceUDiv, BitVec.reduceUMod, BitVec.reduceAnd, BitVec.reduceOr, BitVec.reduceXOr, BitVec.reduceNot, BitVec.reduceNeg, BitVec.reduceHShiftLeft, BitVec.reduceHShiftRight, Nat.reduceAdd, Nat.reduceMul, Nat.reduceSub, Nat.reduceBEq, Nat.reduceEqDiff, Nat.reduceLeDiff, Nat.reduceLT, Int.reduceLE, Int.reduceLT, Int.reduceAdd, Int.reduceSub, Int.reduceMul, Int.reduceNeg, Int.reduceToNat, Int.reduceEq, ↓reduceIte, reduceCtorEq, e1, e2, e4, c0, lR, encO, Int.toNat_natCast, Int.natCast_zero]; repeat (simp (disch := omega) only [w64_d, ipos, ineg, dpos, dneg]; try simp (config := { maxSteps := 10000000 }) only [go_sem, List.reduceReplicate, BitVec.reduceOfInt, BitVec.reduceToNat, BitVec.reduceToInt, BitVec.reduceEq, BitVec.reduceLT, BitVec.reduceLE, BitVec.reduceAdd, BitVec.reduceSub, BitVec.reduceMul, BitVec.reduceUDiv, BitVec.reduceUMod, BitVec.reduceAnd, BitVec.reduceOr, BitVec.reduceXOr, BitVec.reduceNot, BitVec.reduceNeg, BitVec.reduceHShiftLeft, BitVec.reduceHShiftRight, Nat.reduceAdd, Nat.reduceMul, Nat.reduceSub, Nat.reduceBEq, Nat.reduceEqDiff, Nat.reduceLeDiff, Nat.reduceLT, Int.reduceLE, Int.reduceLT, Int.reduceAdd, Int.reduceSub, Int.reduceMul, Int.reduceNeg, Int.reduceToNat, Int.reduceEq, ↓reduceIte, reduceCtorEq, e1, e2, e4, c0, lR, encO, Int.toNat_natCast, Int.natCast_zero]))
                    refine ⟨k + 1, by omega, by omega, ?_⟩
                    rw [show bstN R [] (k + 1) = some k from sB]
                    exact Wk.wk (by simp [lo]) (by simp [Am.get, encO]) (by simp [AV.bel, Sc.bel]) (subH_refl _) (bb [])
                  | some j =>
                    rw [hb] at sB
                    obtain ⟨j1, j2, j3⟩ := bst_some linU hb
                    obtain ⟨y2, hy2⟩ := sl_some hR (show j < 8 by omega)
                    have yb := at8_k (by omega) hy2
                    obtain ⟨d0, d1⟩ := refC_cell hR hy2
                    have e5 : ¬ (j : Int) < 0 := by omega
                    have e6 : (0 : Int) ≤ j := by omega
                    have e7 : (j : Int) < 8 := by omega
                    simp only [ya, yb] at sB
                    by_cases hlt2 : y.ln < y2.ln
                    · rw [if_pos (by simpa [ltU] using hlt2)] at sB
                      have hl' := eq_true hlt2
                      (try simp (config := { maxSteps := 10000000 }) only [go_sem, List.reduceReplicate, BitVec.reduceOfInt, BitVec.reduceToNat, BitVec.reduceToInt, BitVec.reduceEq, BitVec.reduceLT, BitVec.reduceLE, BitVec.reduceAdd, BitVec.reduceSub, BitVec.reduceMul, BitVec.reduceUDiv, BitVec.reduceUMod, BitVec.reduceAnd, BitVec.reduceOr, BitVec.reduceXOr, BitVec.reduceNot, BitVec.reduceNeg, BitVec.reduceHShiftLeft, BitVec.reduceHShiftRight, Nat.reduceAdd, Nat.reduceMul, Nat.reduceSub, Nat.reduceBEq, Nat.reduceEqDiff, Nat.reduceLeDiff, Nat.reduceLT, Int.reduceLE, Int.reduceLT, Int.reduceAdd, Int.reduceSub, Int.reduceMul, Int.reduceNeg, Int.reduceToNat, Int.reduceEq, ↓reduceIte, reduceCtorEq, e1, e2, e4, e5, e6, e7, c0, c1, d1, hl', lR, encO, Int.toNat_natCast, Int.natCast_zero]; repeat (simp (disch := omega) only [w64_d, ipos, ineg, dpos, dneg]; try simp (config := { maxSteps := 10000000 }) only [go_sem, List.reduceReplicate, BitVec.reduceOfInt, BitVec.reduceToNat, BitVec.reduceToInt, BitVec.reduceEq, BitVec.reduceLT, BitVec.reduceLE, BitVec.reduceAdd, BitVec.reduceSub, BitVec.reduceMul, BitVec.reduceUDiv, BitVec.reduceUMod, BitVec.reduceAnd, BitVec.reduceOr, BitVec.reduceXOr, BitVec.reduceNot, BitVec.reduceNeg, BitVec.reduceHShiftLeft, BitVec.reduceHShiftRight, Nat.reduceAdd, Nat.reduceMul, Nat.reduceSub, Nat.reduceBEq, Nat.reduceEqDiff, Nat.reduceLeDiff, Nat.reduceLT, Int.reduceLE, Int.reduceLT, Int.reduceAdd, Int.reduceSub, Int.reduceMul, Int.reduceNeg, Int.reduceToNat, Int.reduceEq, ↓reduceIte, reduceCtorEq, e1, e2, e4, e5, e6, e7, c0, c1, d1, hl', lR, encO, Int.toNat_natCast, Int.natCast_zero]))
                      refine ⟨k + 1, by omega, by omega, ?_⟩
                      rw [show bstN R [] (k + 1) = some k from sB]
                      exact Wk.wk (by simp [lo]) (by simp [Am.get, encO]) (by simp [AV.bel, Sc.bel]) (subH_refl _) (bb [])
                    · rw [if_neg (by simpa [ltU] using hlt2)] at sB
                      have hl' := eq_false hlt2
                      (try simp (config := { maxSteps := 10000000 }) only [go_sem, List.reduceReplicate, BitVec.reduceOfInt, BitVec.reduceToNat, BitVec.reduceToInt, BitVec.reduceEq, BitVec.reduceLT, BitVec.reduceLE, BitVec.reduceAdd, BitVec.reduceSub, BitVec.reduceMul, BitVec.reduceUDiv, BitVec.reduceUMod, BitVec.reduceAnd, BitVec.reduceOr, BitVec.reduceXOr, BitVec.reduceNot, BitVec.reduceNeg, BitVec.reduceHShiftLeft, BitVec.reduceHShiftRight, Nat.reduceAdd, Nat.reduceMul, Nat.reduceSub, Nat.reduceBEq, Nat.reduceEqDiff, Nat.reduceLeDiff, Nat.reduceLT, Int.reduceLE, Int.reduceLT, Int.reduceAdd, Int.reduceSub, Int.reduceMul, Int.reduceNeg, Int.reduceToNat, Int.reduceEq, ↓reduceIte, reduceCtorEq, e1, e2, e4, e5, e6, e7, c0, c1, d1, hl', lR, encO, Int.toNat_natCast, Int.natCast_zero]; repeat (simp (disch := omega) only [w64_d, ipos, ineg, dpos, dneg]; try simp (config := { maxSteps := 10000000 }) only [go_sem, List.reduceReplicate, BitVec.reduceOfInt, BitVec.reduceToNat, BitVec.reduceToInt, BitVec.reduceEq, BitVec.reduceLT, BitVec.reduceLE, BitVec.reduceAdd, BitVec.reduceSub, BitVec.reduceMul, BitVec.reduceUDiv, BitVec.reduceUMod, BitVec.reduceAnd, BitVec.reduceOr, BitVec.reduceXOr, BitVec.reduceNot, BitVec.reduceNeg, BitVec.reduceHShiftLeft, BitVec.reduceHShiftRight, Nat.reduceAdd, Nat.reduceMul, Nat.reduceSub, Nat.reduceBEq, Nat.reduceEqDiff, Nat.reduceLeDiff, Nat.reduceLT, Int.reduceLE, Int.reduceLT, Int.reduceAdd, Int.reduceSub, Int.reduceMul, Int.reduceNeg, Int.reduceToNat, Int.reduceEq, ↓reduceIte, reduceCtorEq, e1, e2, e4, e5, e6, e7, c0, c1, d1, hl', lR, encO, Int.toNat_natCast, Int.natCast_zero]))
                      refine ⟨k + 1, by omega, by omega, ?_⟩
                      rw [show bstN R [] (k + 1) = some j from sB]
                      exact Wk.wk (by simp [lo]) (by simp [Am.get, encO]) (by simp [AV.bel, Sc.bel]) (subH_refl _) (bb [])
                | succ m =>
                  have nz : ¬ ((m + 1 : Nat) : Int) = 0 := by omega
                  have e8 : w64 (((m + 1 : Nat) : Int) - 1) = (m : Int) := by rw [w64_d (by omega) (by omega)]; omega
                  have e9 : (0 : Int) ≤ m := by omega
                  have e10 : (m : Int) < ((m + 1 : Nat) : Int) := by omega
                  have cD : ((D.take (m + 1)).map gU).getD m .any = .u D[m] := by
                    rw [List.getD_eq_getElem?_getD, List.getElem?_map, List.getElem?_take, if_pos (by omega), List.getElem?_eq_getElem (by omega)]; rfl
                  have cc : canB R (D.take (m + 1)) k = decide (D[m] < y.ln) := by unfold canB; rw [ya, hy1, take_last (by omega)]; rfl
                  by_cases hgt : D[m] < y.ln
                  · have hg' := eq_true hgt
                    rw [decide_eq_true hgt] at cc
                    rw [cc] at sB
                    cases hb : bstN R (D.take (m + 1)) k with
                    | none =>
                      rw [hb] at sB
                      simp only [if_true] at sB
                      (try simp (config := { maxSteps := 10000000 }) only [go_sem, List.reduceReplicate, BitVec.reduceOfInt, BitVec.reduceToNat, BitVec.reduceToInt, BitVec.reduceEq, BitVec.reduceLT, BitVec.reduceLE, BitVec.reduceAdd, BitVec.reduceSub, BitVec.reduceMul, BitVec.reduceUDiv, BitVec.reduceUMod, BitVec.reduceAnd, BitVec.reduceOr, BitVec.reduceXOr, BitVec.reduceNot, BitVec.reduceNeg, BitVec.reduceHShiftLeft, BitVec.reduceHShiftRight, Nat.reduceAdd, Nat.reduceMul, Nat.reduceSub, Nat.reduceBEq, Nat.reduceEqDiff, Nat.reduceLeDiff, Nat.reduceLT, Int.reduceLE, Int.reduceLT, Int.reduceAdd, Int.reduceSub, Int.reduceMul, Int.reduceNeg, Int.reduceToNat, Int.reduceEq, ↓reduceIte, reduceCtorEq, e1, e2, e4, nz, e8, e9, e10, cD, hg', c0, c1, lR, ln, List.length_map, encO, Int.toNat_natCast]; repeat (simp (disch := omega) only [w64_d, ipos, ineg, dpos, dneg]; try simp (config := { maxSteps := 10000000 }) only [go_sem, List.reduceReplicate, BitVec.reduceOfInt, BitVec.reduceToNat, BitVec.reduceToInt, BitVec.reduceEq, BitVec.reduceLT, BitVec.reduceLE, BitVec.reduceAdd, BitVec.reduceSub, BitVec.reduceMul, BitVec.reduceUDiv, BitVec.reduceUMod, BitVec.reduceAnd, BitVec.reduceOr, BitVec.reduceXOr, BitVec.reduceNot, BitVec.reduceNeg, BitVec.reduceHShiftLeft, BitVec.reduceHShiftRight, Nat.reduceAdd, Nat.reduceMul, Nat.reduceSub, Nat.reduceBEq, Nat.reduceEqDiff, Nat.reduceLeDiff, Nat.reduceLT, Int.reduceLE, Int.reduceLT, Int.reduceAdd, Int.reduceSub, Int.reduceMul, Int.reduceNeg, Int.reduceToNat, Int.reduceEq, ↓reduceIte, reduceCtorEq, e1, e2, e4, nz, e8, e9, e10, cD, hg', c0, c1, lR, ln, List.length_map, encO, Int.toNat_natCast]))
                      refine ⟨k + 1, by omega, by omega, ?_⟩
                      rw [sB]
                      exact Wk.wk (by simp [lo]) (by simp [Am.get, encO]) (by simp [AV.bel, Sc.bel]) (subH_refl _) (bb _)
                    | some j =>
                      rw [hb] at sB
                      obtain ⟨j1, j2, j3⟩ := bst_some linU hb
                      obtain ⟨y2, hy2⟩ := sl_some hR (show j < 8 by omega)
                      have yb := at8_k (by omega) hy2
                      obtain ⟨d0, d1⟩ := refC_cell hR hy2
                      have e5 : ¬ (j : Int) < 0 := by omega
                      have e6 : (0 : Int) ≤ j := by omega
                      have e7 : (j : Int) < 8 := by omega
                      simp only [ya, yb] at sB
                      by_cases hlt2 : y.ln < y2.ln
                      · rw [if_pos (by simpa [ltU] using hlt2)] at sB
                        have hl' := eq_true hlt2
                        (try simp (config := { maxSteps := 10000000 }) only [go_sem, List.reduceReplicate, BitVec.reduceOfInt, BitVec.reduceToNat, BitVec.reduceToInt, BitVec.reduceEq, BitVec.reduceLT, BitVec.reduceLE, BitVec.reduceAdd, BitVec.reduceSub, BitVec.reduceMul, BitVec.reduceUDiv, BitVec.reduceUMod, BitVec.reduceAnd, BitVec.reduceOr, BitVec.reduceXOr, BitVec.reduceNot, BitVec.reduceNeg, BitVec.reduceHShiftLeft, BitVec.reduceHShiftRight, Nat.reduceAdd, Nat.reduceMul, Nat.reduceSub, Nat.reduceBEq, Nat.reduceEqDiff, Nat.reduceLeDiff, Nat.reduceLT, Int.reduceLE, Int.reduceLT, Int.reduceAdd, Int.reduceSub, Int.reduceMul, Int.reduceNeg, Int.reduceToNat, Int.reduceEq, ↓reduceIte, reduceCtorEq, e1, e2, e4, e5, e6, e7, nz, e8, e9, e10, cD, hg', c0, c1, d1, hl', lR, ln, List.length_map, encO, Int.toNat_natCast]; repeat (simp (disch := omega) only [w64_d, ipos, ineg, dpos, dneg]; try simp (config := { maxSteps := 10000000 }) only [go_sem, List.reduceReplicate, BitVec.reduceOfInt, BitVec.reduceToNat, BitVec.reduceToInt, BitVec.reduceEq, BitVec.reduceLT, BitVec.reduceLE, BitVec.reduceAdd, BitVec.reduceSub, BitVec.reduceMul, BitVec.reduceUDiv, BitVec.reduceUMod, BitVec.reduceAnd, BitVec.reduceOr, BitVec.reduceXOr, BitVec.reduceNot, BitVec.reduceNeg, BitVec.reduceHShiftLeft, BitVec.reduceHShiftRight, Nat.reduceAdd, Nat.reduceMul, Nat.reduceSub, Nat.reduceBEq, Nat.reduceEqDiff, Nat.reduceLeDiff, Nat.reduceLT, Int.reduceLE, Int.reduceLT, Int.reduceAdd, Int.reduceSub, Int.reduceMul, Int.reduceNeg, Int.reduceToNat, Int.reduceEq, ↓reduceIte, reduceCtorEq, e1, e2, e4, e5, e6, e7, nz, e8, e9, e10, cD, hg', c0, c1, d1, hl', lR, ln, List.length_map, encO, Int.toNat_natCast]))
                        refine ⟨k + 1, by omega, by omega, ?_⟩
                        rw [sB]
                        exact Wk.wk (by simp [lo]) (by simp [Am.get, encO]) (by simp [AV.bel, Sc.bel]) (subH_refl _) (bb _)
                      · rw [if_neg (by simpa [ltU] using hlt2)] at sB
                        have hl' := eq_false hlt2
                        (try simp (config := { maxSteps := 10000000 }) only [go_sem, List.reduceReplicate, BitVec.reduceOfInt, BitVec.reduceToNat, BitVec.reduceToInt, BitVec.reduceEq, BitVec.reduceLT, BitVec.reduceLE, BitVec.reduceAdd, BitVec.reduceSub, BitVec.reduceMul, BitVec.reduceUDiv, BitVec.reduceUMod, BitVec.reduceAnd, BitVec.reduceOr, BitVec.reduceXOr, BitVec.reduceNot, BitVec.reduceNeg, BitVec.reduceHShiftLeft, BitVec.reduceHShiftRight, Nat.reduceAdd, Nat.reduceMul, Nat.reduceSub, Nat.reduceBEq, Nat.reduceEqDiff, Nat.reduceLeDiff, Nat.reduceLT, Int.reduceLE, Int.reduceLT, Int.reduceAdd, Int.reduceSub, Int.reduceMul, Int.reduceNeg, Int.reduceToNat, Int.reduceEq, ↓reduceIte, reduceCtorEq, e1, e2, e4, e5, e6, e7, nz, e8, e9, e10, cD, hg', c0, c1, d1, hl', lR, ln, List.length_map, encO, Int.toNat_natCast]; repeat (simp (disch := omega) only [w64_d, ipos, ineg, dpos, dneg]; try simp (config := { maxSteps := 10000000 }) only [go_sem, List.reduceReplicate, BitVec.reduceOfInt, BitVec.reduceToNat, BitVec.reduceToInt, BitVec.reduceEq, BitVec.reduceLT, BitVec.reduceLE, BitVec.reduceAdd, BitVec.reduceSub, BitVec.reduceMul, BitVec.reduceUDiv, BitVec.reduceUMod, BitVec.reduceAnd, BitVec.reduceOr, BitVec.reduceXOr, BitVec.reduceNot, BitVec.reduceNeg, BitVec.reduceHShiftLeft, BitVec.reduceHShiftRight, Nat.reduceAdd, Nat.reduceMul, Nat.reduceSub, Nat.reduceBEq, Nat.reduceEqDiff, Nat.reduceLeDiff, Nat.reduceLT, Int.reduceLE, Int.reduceLT, Int.reduceAdd, Int.reduceSub, Int.reduceMul, Int.reduceNeg, Int.reduceToNat, Int.reduceEq, ↓reduceIte, reduceCtorEq, e1, e2, e4, e5, e6, e7, nz, e8, e9, e10, cD, hg', c0, c1, d1, hl', lR, ln, List.length_map, encO, Int.toNat_natCast]))
                        refine ⟨k + 1, by omega, by omega, ?_⟩
                        rw [sB]
                        exact Wk.wk (by simp [lo]) (by simp [Am.get, encO]) (by simp [AV.bel, Sc.bel]) (subH_refl _) (bb _)
                  · have hg' := eq_false hgt
                    rw [decide_eq_false hgt] at cc
                    (try simp (config := { maxSteps := 10000000 }) only [go_sem, List.reduceReplicate, BitVec.reduceOfInt, BitVec.reduceToNat, BitVec.reduceToInt, BitVec.reduceEq, BitVec.reduceLT, BitVec.reduceLE, BitVec.reduceAdd, BitVec.reduceSub, BitVec.reduceMul, BitVec.reduceUDiv, BitVec.reduceUMod, BitVec.reduceAnd, BitVec.reduceOr, BitVec.reduceXOr, BitVec.reduceNot, BitVec.reduceNeg, BitVec.reduceHShiftLeft, BitVec.reduceHShiftRight, Nat.reduceAdd, Nat.reduceMul, Nat.reduceSub, Nat.reduceBEq, Nat.reduceEqDiff, Nat.reduceLeDiff, Nat.reduceLT, Int.reduceLE, Int.reduceLT, Int.reduceAdd, Int.reduceSub, Int.reduceMul, Int.reduceNeg, Int.reduceToNat, Int.reduceEq, ↓reduceIte, reduceCtorEq, e1, e2, e4, nz, e8, e9, e10, cD, hg', c0, c1, lR, ln, List.length_map, Int.toNat_natCast]; repeat (simp (disch := omega) only [w64_d, ipos, ineg, dpos, dneg]; try simp (config := { maxSteps := 10000000 }) only [go_sem, List.reduceReplicate, BitVec.reduceOfInt, BitVec.reduceToNat, BitVec.reduceToInt, BitVec.reduceEq, BitVec.reduceLT, BitVec.reduceLE, BitVec.reduceAdd, BitVec.reduceSub, BitVec.reduceMul, BitVec.reduceUDiv, BitVec.reduceUMod, BitVec.reduceAnd, BitVec.reduceOr, BitVec.reduceXOr, BitVec.reduceNot, BitVec.reduceNeg, BitVec.reduceHShiftLeft, BitVec.reduceHShiftRight, Nat.reduceAdd, Nat.reduceMul, Nat.reduceSub, Nat.reduceBEq, Nat.reduceEqDiff, Nat.reduceLeDiff, Nat.reduceLT, Int.reduceLE, Int.reduceLT, Int.reduceAdd, Int.reduceSub, Int.reduceMul, Int.reduceNeg, Int.reduceToNat, Int.reduceEq, ↓reduceIte, reduceCtorEq, e1, e2, e4, nz, e8, e9, e10, cD, hg', c0, c1, lR, ln, List.length_map, Int.toNat_natCast]))
                    refine ⟨k + 1, by omega, by omega, ?_⟩
                    have sB' : bstN R (D.take (m + 1)) (k + 1) = bstN R (D.take (m + 1)) k := by
                      rw [sB, cc]; cases bstN R (D.take (m + 1)) k <;> simp
                    rw [sB']
                    exact Wk.wk (by simp [lo]) (by simp [Am.get]) (by simp [AV.bel, Sc.bel]) (subH_refl _) (bb _)
            · obtain rfl : k = 8 := by omega
              rcases Nat.lt_or_ge n D.length with h5 | h5
              · obtain ⟨j, b1, b2, b3⟩ := bM n h5
                rw [b1]
                obtain ⟨y2, hy2⟩ := sl_some hR b2
                have yb := at8_k (by omega) hy2
                rw [yb] at b3
                obtain ⟨d0, d1⟩ := refC_cell hR hy2
                have e5 : ¬ (j : Int) < 0 := by omega
                have e6 : (0 : Int) ≤ j := by omega
                have e7 : (j : Int) < 8 := by omega
                have e2 : w64 ((n : Int) + 1) = ((n + 1 : Nat) : Int) := by rw [w64_d (by omega) (by omega)]; omega
                have k5 : (n + 1) * 8 ≤ 1099511627776 := by omega
                have tS : (D.take (n + 1)).map gU = (D.take n).map gU ++ [gU y2.ln] := by
                  rw [List.take_succ_eq_append_getElem h5, List.map_append]
                  rw [List.getElem?_eq_getElem h5] at b3
                  simp only [Option.some.injEq] at b3
                  rw [b3]; rfl
                (try simp (config := { maxSteps := 10000000 }) only [go_sem, List.reduceReplicate, BitVec.reduceOfInt, BitVec.reduceToNat, BitVec.reduceToInt, BitVec.reduceEq, BitVec.reduceLT, BitVec.reduceLE, BitVec.reduceAdd, BitVec.reduceSub, BitVec.reduceMul, BitVec.reduceUDiv, BitVec.reduceUMod, BitVec.reduceAnd, BitVec.reduceOr, BitVec.reduceXOr, BitVec.reduceNot, BitVec.reduceNeg, BitVec.reduceHShiftLeft, BitVec.reduceHShiftRight, Nat.reduceAdd, Nat.reduceMul, Nat.reduceSub, Nat.reduceBEq, Nat.reduceEqDiff, Nat.reduceLeDiff, Nat.reduceLT, Int.reduceLE, Int.reduceLT, Int.reduceAdd, Int.reduceSub, Int.reduceMul, Int.reduceNeg, Int.reduceToNat, Int.reduceEq, ↓reduceIte, reduceCtorEq, encO, e2, e5, e6, e7, d1, k5, lR, ln, List.length_map, Int.toNat_natCast]; repeat (simp (disch := omega) only [w64_d, ipos, ineg, dpos, dneg]; try simp (config := { maxSteps := 10000000 }) only [go_sem, List.reduceReplicate, BitVec.reduceOfInt, BitVec.reduceToNat, BitVec.reduceToInt, BitVec.reduceEq, BitVec.reduceLT, BitVec.reduceLE, BitVec.reduceAdd, BitVec.reduceSub, BitVec.reduceMul, BitVec.reduceUDiv, BitVec.reduceUMod, BitVec.reduceAnd, BitVec.reduceOr, BitVec.reduceXOr, BitVec.reduceNot, BitVec.reduceNeg, BitVec.reduceHShiftLeft, BitVec.reduceHShiftRight, Nat.reduceAdd, Nat.reduceMul, Nat.reduceSub, Nat.reduceBEq, Nat.reduceEqDiff, Nat.reduceLeDiff, Nat.reduceLT, Int.reduceLE, Int.reduceLT, Int.reduceAdd, Int.reduceSub, Int.reduceMul, Int.reduceNeg, Int.reduceToNat, Int.reduceEq, ↓reduceIte, reduceCtorEq, encO, e2, e5, e6, e7, d1, k5, lR, ln, List.length_map, Int.toNat_natCast]))
                refine ⟨n + 1, by omega, by omega, ?_⟩
                rw [tS]
                exact Wk.wk (by simp [lo]) (by simp [Am.get]) (by simp [AV.bel, Sc.bel]) (subH_pre _ ⟨.inr rfl, .inr (by simp [gU]), trivial⟩) (by rw [← tS]; exact bb _)
              · obtain rfl : n = D.length := by omega
                rw [List.take_length] at *
                rw [bE]
                (try simp (config := { maxSteps := 10000000 }) only [go_sem, List.reduceReplicate, BitVec.reduceOfInt, BitVec.reduceToNat, BitVec.reduceToInt, BitVec.reduceEq, BitVec.reduceLT, BitVec.reduceLE, BitVec.reduceAdd, BitVec.reduceSub, BitVec.reduceMul, BitVec.reduceUDiv, BitVec.reduceUMod, BitVec.reduceAnd, BitVec.reduceOr, BitVec.reduceXOr, BitVec.reduceNot, BitVec.reduceNeg, BitVec.reduceHShiftLeft, BitVec.reduceHShiftRight, Nat.reduceAdd, Nat.reduceMul, Nat.reduceSub, Nat.reduceBEq, Nat.reduceEqDiff, Nat.reduceLeDiff, Nat.reduceLT, Int.reduceLE, Int.reduceLT, Int.reduceAdd, Int.reduceSub, Int.reduceMul, Int.reduceNeg, Int.reduceToNat, Int.reduceEq, ↓reduceIte, reduceCtorEq, encO]; repeat (simp (disch := omega) only [w64_d, ipos, ineg, dpos, dneg]; try simp (config := { maxSteps := 10000000 }) only [go_sem, List.reduceReplicate, BitVec.reduceOfInt, BitVec.reduceToNat, BitVec.reduceToInt, BitVec.reduceEq, BitVec.reduceLT, BitVec.reduceLE, BitVec.reduceAdd, BitVec.reduceSub, BitVec.reduceMul, BitVec.reduceUDiv, BitVec.reduceUMod, BitVec.reduceAnd, BitVec.reduceOr, BitVec.reduceXOr, BitVec.reduceNot, BitVec.reduceNeg, BitVec.reduceHShiftLeft, BitVec.reduceHShiftRight, Nat.reduceAdd, Nat.reduceMul, Nat.reduceSub, Nat.reduceBEq, Nat.reduceEqDiff, Nat.reduceLeDiff, Nat.reduceLT, Int.reduceLE, Int.reduceLT, Int.reduceAdd, Int.reduceSub, Int.reduceMul, Int.reduceNeg, Int.reduceToNat, Int.reduceEq, ↓reduceIte, reduceCtorEq, encO]))
                exact fin_tail1 1 (Nat.le_refl _) hH rfl (map_bel gU_num _ _) ren_sl0.symm (by simp [AV.bel, Sc.bel])
        · have e0 : ¬ (n : Int) < 8 := by omega
          obtain rfl : n = D.length := by omega
          rw [List.take_length] at *
          (try simp (config := { maxSteps := 10000000 }) only [go_sem, List.reduceReplicate, BitVec.reduceOfInt, BitVec.reduceToNat, BitVec.reduceToInt, BitVec.reduceEq, BitVec.reduceLT, BitVec.reduceLE, BitVec.reduceAdd, BitVec.reduceSub, BitVec.reduceMul, BitVec.reduceUDiv, BitVec.reduceUMod, BitVec.reduceAnd, BitVec.reduceOr, BitVec.reduceXOr, BitVec.reduceNot, BitVec.reduceNeg, BitVec.reduceHShiftLeft, BitVec.reduceHShiftRight, Nat.reduceAdd, Nat.reduceMul, Nat.reduceSub, Nat.reduceBEq, Nat.reduceEqDiff, Nat.reduceLeDiff, Nat.reduceLT, Int.reduceLE, Int.reduceLT, Int.reduceAdd, Int.reduceSub, Int.reduceMul, Int.reduceNeg, Int.reduceToNat, Int.reduceEq, ↓reduceIte, reduceCtorEq, e0]; repeat (simp (disch := omega) only [w64_d, ipos, ineg, dpos, dneg]; try simp (config := { maxSteps := 10000000 }) only [go_sem, List.reduceReplicate, BitVec.reduceOfInt, BitVec.reduceToNat, BitVec.reduceToInt, BitVec.reduceEq, BitVec.reduceLT, BitVec.reduceLE, BitVec.reduceAdd, BitVec.reduceSub, BitVec.reduceMul, BitVec.reduceUDiv, BitVec.reduceUMod, BitVec.reduceAnd, BitVec.reduceOr, BitVec.reduceXOr, BitVec.reduceNot, BitVec.reduceNeg, BitVec.reduceHShiftLeft, BitVec.reduceHShiftRight, Nat.reduceAdd, Nat.reduceMul, Nat.reduceSub, Nat.reduceBEq, Nat.reduceEqDiff, Nat.reduceLeDiff, Nat.reduceLT, Int.reduceLE, Int.reduceLT, Int.reduceAdd, Int.reduceSub, Int.reduceMul, Int.reduceNeg, Int.reduceToNat, Int.reduceEq, ↓reduceIte, reduceCtorEq, e0]))
          exact fin_tail1 1 (Nat.le_refl _) hH rfl (map_bel gU_num _ _) ren_sl0.symm (by simp [AV.bel, Sc.bel])
    · simp at h
  · simp at h
end
end Go.Proofs.Ytbnfapacbfeabaa
