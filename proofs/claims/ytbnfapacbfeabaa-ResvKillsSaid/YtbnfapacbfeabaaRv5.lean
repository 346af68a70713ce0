/- Layer 13: the lines of which there is a reservation: contract. -/
import Derived.Test.YtbnfapacbfeabaaRv4
namespace Go.Proofs.Ytbnfapacbfeabaa
open Go.Am
set_option linter.unusedSimpArgs false
set_option linter.unusedVariables false
noncomputable section
theorem op_makeMap0 {t : Nat} : opnds (.makeMap t none) = [] := rfl
theorem op_lookup {t : Nat} {x y : Operand} {q : Bool} : opnds (.lookup t x y q) = [x, y] := rfl
theorem op_mapUpdate {t : Nat} {x y z : Operand} : opnds (.mapUpdate t x y z) = [x, y, z] := rfl

/-- the lines of the first k, each once; and the map's entries -/
def linN (R : List Sl) : Nat → List (BitVec 64)
  | 0 => []
  | k + 1 => match R[k]? with
    | some y => if y.is = true ∧ y.ln ∉ linN R k then linN R k ++ [y.ln] else linN R k
    | none => linN R k
def entN (R : List Sl) : Nat → List (Nat × BitVec 64 × Int)
  | 0 => []
  | k + 1 => match R[k]? with
    | some y => if y.is = true ∧ y.ln ∉ linN R k then entN R k ++ [((linN R k).length, y.ln, (k : Int) + 1)] else entN R k
    | none => entN R k
theorem entN_ln {R : List Sl} : ∀ {k : Nat}, (entN R k).map (·.2.1) = linN R k
  | 0 => rfl
  | k + 1 => by
    have ih := entN_ln (R := R) (k := k)
    simp only [entN, linN]
    split
    · split
      · rw [List.map_append, ih]; rfl
      · exact ih
    · exact ih
theorem entN_pos {R : List Sl} : ∀ {k : Nat} {p : Nat × BitVec 64 × Int}, p ∈ entN R k → 0 < p.2.2
  | 0, p, h => by simp [entN] at h
  | k + 1, p, h => by
    have ih := fun {p} => entN_pos (R := R) (k := k) (p := p)
    simp only [entN] at h
    split at h
    · split at h
      · rcases List.mem_append.1 h with h | h
        · exact ih h
        · rw [List.mem_singleton] at h; subst h; simp only; omega
      · exact ih h
    · exact ih h
theorem linN_len {R : List Sl} : ∀ {k : Nat}, (linN R k).length ≤ k
  | 0 => Nat.le_refl _
  | k + 1 => by
    have ih := linN_len (R := R) (k := k)
    simp only [linN]
    split
    · split
      · simp; omega
      · omega
    · omega
theorem linN_nodup {R : List Sl} : ∀ {k : Nat}, (linN R k).Nodup
  | 0 => List.nodup_nil
  | k + 1 => by
    have ih := linN_nodup (R := R) (k := k)
    simp only [linN]
    split
    · split
      · rename_i h
        rw [List.nodup_append]
        refine ⟨ih, by simp, fun a ha b hb => ?_⟩
        rw [List.mem_singleton] at hb
        rintro rfl
        exact h.2 (hb ▸ ha)
      · exact ih
    · exact ih
theorem linN_mem {R : List Sl} {l : BitVec 64} : ∀ {k : Nat}, l ∈ linN R k ↔ ∃ j y, j < k ∧ R[j]? = some y ∧ y.is = true ∧ y.ln = l
  | 0 => by simp [linN]
  | k + 1 => by
    have ih := linN_mem (R := R) (l := l) (k := k)
    simp only [linN]
    constructor
    · intro h
      have h' : l ∈ linN R k ∨ ∃ y, R[k]? = some y ∧ y.is = true ∧ y.ln = l := by
        split at h
        · rename_i y hy
          split at h
          · rename_i hc
            rcases List.mem_append.1 h with h | h
            · exact .inl h
            · rw [List.mem_singleton] at h; exact .inr ⟨y, hy, hc.1, h.symm⟩
          · exact .inl h
        · exact .inl h
      rcases h' with h | ⟨y, h⟩
      · obtain ⟨j, y, h1, h2⟩ := ih.1 h
        exact ⟨j, y, by omega, h2⟩
      · exact ⟨k, y, by omega, h⟩
    · rintro ⟨j, y, h1, h2, h3, h4⟩
      rcases Nat.lt_or_ge j k with h5 | h5
      · have := ih.2 ⟨j, y, h5, h2, h3, h4⟩
        split
        · split
          · exact List.mem_append_left _ this
          · exact this
        · exact this
      · obtain rfl : j = k := by omega
        rw [h2]
        simp only
        split
        · rw [List.mem_append, List.mem_singleton]; exact .inr h4.symm
        · rename_i hc
          rcases Classical.em (y.ln ∈ linN R j) with h6 | h6
          · rw [← h4]; exact h6
          · exact (hc ⟨h3, h6⟩).elim
def entE (L : List (Nat × BitVec 64 × Int)) : List (Nat × AV × AV) := L.map fun p => (p.1, .g [.b true, .u p.2.1], .c (.i p.2.2))
theorem kEq_slot {l m : BitVec 64} : kEq Try.prog 26 (.g [.b true, .u l]) (.g [.b true, .u m]) = some (decide (l = m)) := by
  unfold kEq
  rw [kA26, gT26]
  simp [csEq, scEq]
theorem find_no {l : BitVec 64} : ∀ {L : List (Nat × BitVec 64 × Int)} {i : Nat}, l ∉ L.map (·.2.1) → findA Try.prog 26 (.g [.b true, .u l]) (entE L) i = some none
  | [], i, _ => rfl
  | p :: L, i, h => by
    simp only [List.map_cons, List.mem_cons, not_or] at h
    have ih := find_no (L := L) (i := i + 1) h.2
    simp only [entE] at ih
    simp only [entE, List.map_cons, findA, kEq_slot, h.1, decide_false, ih]
theorem find_yes {l : BitVec 64} : ∀ {L : List (Nat × BitVec 64 × Int)} {i : Nat}, l ∈ L.map (·.2.1) → (∀ p ∈ L, 0 < p.2.2) → ∃ j v, findA Try.prog 26 (.g [.b true, .u l]) (entE L) i = some (some (j, .c (.i v))) ∧ 0 < v
  | [], i, h, _ => by simp at h
  | p :: L, i, h, hp => by
    by_cases e : l = p.2.1
    · exact ⟨i, p.2.2, by simp only [entE, List.map_cons, findA, kEq_slot, e, decide_true], hp p (by simp)⟩
    · have h' : l ∈ L.map (·.2.1) := by
        simp only [List.map_cons, List.mem_cons] at h
        rcases h with h | h
        · exact (e h).elim
        · exact h
      obtain ⟨j, v, h1, h2⟩ := find_yes (L := L) (i := i + 1) h' fun q hq => hp q (by simp [hq])
      refine ⟨j, v, ?_, h2⟩
      simp only [entE] at h1
      simp only [entE, List.map_cons, findA, kEq_slot, e, decide_false, h1]
theorem entE_bel {L : List (Nat × BitVec 64 × Int)} {c n : Nat} : (AObj.map c (entE L)).scs.all (Sc.bel n) = true := by
  simp only [AObj.scs, entE, List.flatMap_map, List.all_flatMap]
  exact List.all_eq_true.2 fun _ _ => rfl
def linO (r : Option (List Sl)) : List (BitVec 64) := match r with
  | some R => srt ltU (linN R 8)
  | none => []
def s_vlines (args : List AV) (H : AH) : Option (AV × AH) :=
  match args with
  | [.c x] =>
    match tabP H x with
    | some r => some (.c (.sl H.length 0 (linO r).length (linO r).length), H ++ [.vec 1 ((linO r).map gU)])
    | none => none
  | _ => none
theorem s_vlines_eq {H : AH} {x : Sc} {r : Option (List Sl)} (hR : tabP H x = some r) : s_vlines [.c x] H = some (.c (.sl H.length 0 (linO r).length (linO r).length), H ++ [.vec 1 ((linO r).map gU)]) := by simp only [s_vlines, hR]
theorem len_vlines (args : List AV) (H : AH) (v : AV) (H1 : AH) (h : s_vlines args H = some (v, H1)) : H.length ≤ H1.length := by
  unfold s_vlines at h
  repeat' split at h
  all_goals simp at h
  rw [← h.2]; simp
theorem fin_nil1 {n : Nat} {H : AH} (hb : belH H = true) (hn : n ≤ H.length) : ∃ v', some (AV.c .nils) = some v' ∧ Wk n [(0, v')] H ([(0, .c (.sl H.length 0 0 0))], H ++ [.vec 1 []]) :=
  ⟨_, rfl, Wk.trans (Wk.nil 0 1 (by decide) rfl hn) (Wk.wk (by simp; omega) (by simp [Am.get]) (by simp [AV.bel, Sc.bel]) (subH_refl _) (belH_app hb (by simp [AObj.scs])))⟩
set_option maxHeartbeats 4000000 in
set_option maxRecDepth 100000 in
set_option maxHeartbeats 2000000 in
theorem ok_vlines : FpOk Try.prog 13 s_vlines := by
  refine fp_ok (s := s_vlines) (tab := [(19, .fp s_sortU)]) hmix (TabOk.cons (e := .fp s_sortU) ok_sortU TabOk.nil) Try.func13 rfl Try.results13 Try.ntmps13 (by kernel_rfl) (by kernel_rfl) len_vlines ?_
  intro args H v H1 h hargs hH
  unfold s_vlines at h
  split at h
  · rename_i x
    split at h
    · rename_i r hR
      simp only [Option.some.injEq, Prod.mk.injEq] at h
      obtain ⟨rfl, rfl⟩ := h
      refine ⟨by simp only [List.length_cons, List.length_nil]; decide, ?_⟩
      rcases tabP_inv hR with ⟨rfl, rfl⟩ | ⟨id, R, rfl, rfl, hl, ho⟩
      · (try simp (config := { maxSteps := 10000000 }) only [go_sem, List.reduceReplicate, BitVec.reduceOfInt, BitVec.reduceToNat, BitVec.reduceToInt, BitVec.reduceEq, BitVec.reduceLT, BitVec.reduceLE, BitVec.reduceAdd, BitVec.reduceSub, BitVec.reduceMul, BitVec.reduceUDiv, BitVec.reduceUMod, BitVec.reduceAnd, BitVec.reduceOr, BitVec.reduceXOr, BitVec.reduceNot, BitVec.reduceNeg, BitVec.reduceHShiftLeft, BitVec.reduceHShiftRight, Nat.reduceAdd, Nat.reduceMul, Nat.reduceSub, Nat.reduceBEq, Nat.reduceEqDiff, Nat.reduceLeDiff, Nat.reduceLT, Int.reduceLE, Int.reduceLT, Int.reduceAdd, Int.reduceSub, Int.reduceMul, Int.reduceNeg, Int.reduceToNat, Int.reduceEq, ↓reduceIte, reduceCtorEq, op_makeMap0, op_lookup, op_mapUpdate]; repeat (simp (disch := omega) only [w64_d, ipos, ineg, dpos, dneg]; try simp (config := { maxSteps := 10000000 }) only [go_sem, List.reduceReplicate, BitVec.reduceOfInt, BitVec.reduceToNat, BitVec.reduceToInt, BitVec.reduceEq, BitVec.reduceLT, BitVec.reduceLE, BitVec.reduceAdd, BitVec.reduceSub, BitVec.reduceMul, BitVec.reduceUDiv, BitVec.reduceUMod, BitVec.reduceAnd, BitVec.reduceOr, BitVec.reduceXOr, BitVec.reduceNot, BitVec.reduceNeg, BitVec.reduceHShiftLeft, BitVec.reduceHShiftRight, Nat.reduceAdd, Nat.reduceMul, Nat.reduceSub, Nat.reduceBEq, Nat.reduceEqDiff, Nat.reduceLeDiff, Nat.reduceLT, Int.reduceLE, Int.reduceLT, Int.reduceAdd, Int.reduceSub, Int.reduceMul, Int.reduceNeg, Int.reduceToNat, Int.reduceEq, ↓reduceIte, reduceCtorEq, op_makeMap0, op_lookup, op_mapUpdate]))
        exact fin_nil1 hH (Nat.le_refl _)
      · have lt := tabC_l hl
        have oX : ∀ X : AH, hg (H ++ X) id = .own (tabC R) := fun X => by rw [hg_lt' (hg_lt (by rw [ho]; rfl)), ho]
        have tk : (tabC R).take 16 = tabC R := by rw [← lt, List.take_length]
        have bb : ∀ c L (V : List (BitVec 64)), belH (H ++ [.map c (entE L), .vec 1 (V.map gU)]) = true := fun c L V => belH_app hH (by simp only [List.mem_cons, List.not_mem_nil, or_false, forall_eq_or_imp, forall_eq]; exact ⟨entE_bel, map_bel gU_num _ _⟩)
        (try simp (config := { maxSteps := 10000000 }) only [go_sem, List.reduceReplicate, BitVec.reduceOfInt, BitVec.reduceToNat, BitVec.reduceToInt, BitVec.reduceEq, BitVec.reduceLT, BitVec.reduceLE, BitVec.reduceAdd, BitVec.reduceSub, BitVec.reduceMul, BitVec.reduceUDiv, BitVec.reduceUMod, BitVec.reduceAnd, BitVec.reduceOr, BitVec.reduceXOr, BitVec.reduceNot, BitVec.reduceNeg, BitVec.reduceHShiftLeft, BitVec.reduceHShiftRight, Nat.reduceAdd, Nat.reduceMul, Nat.reduceSub, Nat.reduceBEq, Nat.reduceEqDiff, Nat.reduceLeDiff, Nat.reduceLT, Int.reduceLE, Int.reduceLT, Int.reduceAdd, Int.reduceSub, Int.reduceMul, Int.reduceNeg, Int.reduceToNat, Int.reduceEq, ↓reduceIte, reduceCtorEq, op_makeMap0, op_lookup, op_mapUpdate, oX, lt, tk]; repeat (simp (disch := omega) only [w64_d, ipos, ineg, dpos, dneg]; try simp (config := { maxSteps := 10000000 }) only [go_sem, List.reduceReplicate, BitVec.reduceOfInt, BitVec.reduceToNat, BitVec.reduceToInt, BitVec.reduceEq, BitVec.reduceLT, BitVec.reduceLE, BitVec.reduceAdd, BitVec.reduceSub, BitVec.reduceMul, BitVec.reduceUDiv, BitVec.reduceUMod, BitVec.reduceAnd, BitVec.reduceOr, BitVec.reduceXOr, BitVec.reduceNot, BitVec.reduceNeg, BitVec.reduceHShiftLeft, BitVec.reduceHShiftRight, Nat.reduceAdd, Nat.reduceMul, Nat.reduceSub, Nat.reduceBEq, Nat.reduceEqDiff, Nat.reduceLeDiff, Nat.reduceLT, Int.reduceLE, Int.reduceLT, Int.reduceAdd, Int.reduceSub, Int.reduceMul, Int.reduceNeg, Int.reduceToNat, Int.reduceEq, ↓reduceIte, reduceCtorEq, op_makeMap0, op_lookup, op_mapUpdate, oX, lt, tk]))
        refine arun_for 8 (fun k => ([(3, .c (.mp H.length)), (4, .c (.sl (H.length + 1) 0 (linN R k).length (linN R k).length)), (13, .g (tabC R)), (14, .c (.i k))], H ++ [.map (linN R k).length (entE (entN R k)), .vec 1 ((linN R k).map gU)])) ?_ fun k hk => ?_
        · exact Wk.trans (Wk.nil 4 1 (by decide) rfl (by simp [lo])) (Wk.wk (by simp [lo]) (by simp [Am.get, linN]) (by simp [AV.bel, Sc.bel, tabC_bel]) (by rw [List.append_assoc]; exact subH_refl _) (bb _ _ _))
        · have ll := @linN_len R k
          by_cases hlt : k < 8
          · have e0 : (k : Int) < 8 := by omega
            have e4 : (0 : Int) ≤ k := by omega
            have e1 : w64 ((k : Int) + 1) = ((k + 1 : Nat) : Int) := by rw [w64_d (by omega) (by omega)]; omega
            have k5 : ((linN R k).length + 1) * 8 ≤ 1099511627776 := by omega
            have k6 : k * 2 + 2 ≤ 16 := by omega
            obtain ⟨y, hy⟩ := sl_some hl hlt
            obtain ⟨c0, c1, c2⟩ := sl_cell hy
            have sL : linN R (k + 1) = if y.is = true ∧ y.ln ∉ linN R k then linN R k ++ [y.ln] else linN R k := by simp only [linN, hy]
            have sE : entN R (k + 1) = if y.is = true ∧ y.ln ∉ linN R k then entN R k ++ [((linN R k).length, y.ln, (k : Int) + 1)] else entN R k := by simp only [entN, hy]
            have nl := @entN_ln R k
            have np := fun p => @entN_pos R k p
            cases hy1 : y.is
            · rw [hy1] at c2 sL sE
              rw [if_neg (by simp)] at sL sE
              (try simp (config := { maxSteps := 10000000 }) only [go_sem, List.reduceReplicate, BitVec.reduceOfInt, BitVec.reduceToNat, BitVec.reduceToInt, BitVec.reduceEq, BitVec.reduceLT, BitVec.reduceLE, BitVec.reduceAdd, BitVec.reduceSub, BitVec.reduceMul, BitVec.reduceUDiv, BitVec.reduceUMod, BitVec.reduceAnd, BitVec.reduceOr, BitVec.reduceXOr, BitVec.reduceNot, BitVec.reduceNeg, BitVec.reduceHShiftLeft, BitVec.reduceHShiftRight, Nat.reduceAdd, Nat.reduceMul, Nat.reduceSub, Nat.reduceBEq, Nat.reduceEqDiff, Nat.reduceLeDiff, Nat.reduceLT, Int.reduceLE, Int.reduceLT, Int.reduceAdd, Int.reduceSub, Int.reduceMul, Int.reduceNeg, Int.reduceToNat, Int.reduceEq, ↓reduceIte, reduceCtorEq, op_makeMap0, op_lookup, op_mapUpdate, e0, e1, e4, c2, lt, k6, Int.toNat_natCast]; repeat (simp (disch := omega) only [w64_d, ipos, ineg, dpos, dneg]; try simp (config := { maxSteps := 10000000 }) only [go_sem, List.reduceReplicate, BitVec.reduceOfInt, BitVec.reduceToNat, BitVec.reduceToInt, BitVec.reduceEq, BitVec.reduceLT, BitVec.reduceLE, BitVec.reduceAdd, BitVec.reduceSub, BitVec.reduceMul, BitVec.reduceUDiv, BitVec.reduceUMod, BitVec.reduceAnd, BitVec.reduceOr, BitVec.reduceXOr, BitVec.reduceNot, BitVec.reduceNeg, BitVec.reduceHShiftLeft, BitVec.reduceHShiftRight, Nat.reduceAdd, Nat.reduceMul, Nat.reduceSub, Nat.reduceBEq, Nat.reduceEqDiff, Nat.reduceLeDiff, Nat.reduceLT, Int.reduceLE, Int.reduceLT, Int.reduceAdd, Int.reduceSub, Int.reduceMul, Int.reduceNeg, Int.reduceToNat, Int.reduceEq, ↓reduceIte, reduceCtorEq, op_makeMap0, op_lookup, op_mapUpdate, e0, e1, e4, c2, lt, k6, Int.toNat_natCast]))
              refine ⟨k + 1, by omega, by omega, ?_⟩
              rw [sL, sE]
              exact Wk.wk (by simp [lo]) (by simp [Am.get]) (by simp [AV.bel, Sc.bel, tabC_bel]) (subH_pre _ ⟨.inr rfl, .inr rfl, trivial⟩) (bb _ _ _)
            · rw [hy1] at c2
              by_cases hm : y.ln ∈ linN R k
              · rw [if_neg (by simp [hm])] at sL sE
                obtain ⟨j, v, f1, f2⟩ := find_yes (L := entN R k) (i := 0) (by rw [nl]; exact hm) np
                have f3 : ¬ v = 0 := by omega
                (try simp (config := { maxSteps := 10000000 }) only [go_sem, List.reduceReplicate, BitVec.reduceOfInt, BitVec.reduceToNat, BitVec.reduceToInt, BitVec.reduceEq, BitVec.reduceLT, BitVec.reduceLE, BitVec.reduceAdd, BitVec.reduceSub, BitVec.reduceMul, BitVec.reduceUDiv, BitVec.reduceUMod, BitVec.reduceAnd, BitVec.reduceOr, BitVec.reduceXOr, BitVec.reduceNot, BitVec.reduceNeg, BitVec.reduceHShiftLeft, BitVec.reduceHShiftRight, Nat.reduceAdd, Nat.reduceMul, Nat.reduceSub, Nat.reduceBEq, Nat.reduceEqDiff, Nat.reduceLeDiff, Nat.reduceLT, Int.reduceLE, Int.reduceLT, Int.reduceAdd, Int.reduceSub, Int.reduceMul, Int.reduceNeg, Int.reduceToNat, Int.reduceEq, ↓reduceIte, reduceCtorEq, op_makeMap0, op_lookup, op_mapUpdate, e0, e1, e4, c2, lt, k6, f1, f3, Int.toNat_natCast]; repeat (simp (disch := omega) only [w64_d, ipos, ineg, dpos, dneg]; try simp (config := { maxSteps := 10000000 }) only [go_sem, List.reduceReplicate, BitVec.reduceOfInt, BitVec.reduceToNat, BitVec.reduceToInt, BitVec.reduceEq, BitVec.reduceLT, BitVec.reduceLE, BitVec.reduceAdd, BitVec.reduceSub, BitVec.reduceMul, BitVec.reduceUDiv, BitVec.reduceUMod, BitVec.reduceAnd, BitVec.reduceOr, BitVec.reduceXOr, BitVec.reduceNot, BitVec.reduceNeg, BitVec.reduceHShiftLeft, BitVec.reduceHShiftRight, Nat.reduceAdd, Nat.reduceMul, Nat.reduceSub, Nat.reduceBEq, Nat.reduceEqDiff, Nat.reduceLeDiff, Nat.reduceLT, Int.reduceLE, Int.reduceLT, Int.reduceAdd, Int.reduceSub, Int.reduceMul, Int.reduceNeg, Int.reduceToNat, Int.reduceEq, ↓reduceIte, reduceCtorEq, op_makeMap0, op_lookup, op_mapUpdate, e0, e1, e4, c2, lt, k6, f1, f3, Int.toNat_natCast]))
                refine ⟨k + 1, by omega, by omega, ?_⟩
                rw [sL, sE]
                exact Wk.wk (by simp [lo]) (by simp [Am.get]) (by simp [AV.bel, Sc.bel, tabC_bel]) (subH_pre _ ⟨.inr rfl, .inr rfl, trivial⟩) (bb _ _ _)
              · rw [if_pos ⟨hy1, hm⟩] at sL sE
                have f1 := find_no (L := entN R k) (i := 0) (l := y.ln) (by rw [nl]; exact hm)
                (try simp (config := { maxSteps := 10000000 }) only [go_sem, List.reduceReplicate, BitVec.reduceOfInt, BitVec.reduceToNat, BitVec.reduceToInt, BitVec.reduceEq, BitVec.reduceLT, BitVec.reduceLE, BitVec.reduceAdd, BitVec.reduceSub, BitVec.reduceMul, BitVec.reduceUDiv, BitVec.reduceUMod, BitVec.reduceAnd, BitVec.reduceOr, BitVec.reduceXOr, BitVec.reduceNot, BitVec.reduceNeg, BitVec.reduceHShiftLeft, BitVec.reduceHShiftRight, Nat.reduceAdd, Nat.reduceMul, Nat.reduceSub, Nat.reduceBEq, Nat.reduceEqDiff, Nat.reduceLeDiff, Nat.reduceLT, Int.reduceLE, Int.reduceLT, Int.reduceAdd, Int.reduceSub, Int.reduceMul, Int.reduceNeg, Int.reduceToNat, Int.reduceEq, ↓reduceIte, reduceCtorEq, op_makeMap0, op_lookup, op_mapUpdate, AV.flat1, e0, e1, e4, c2, lt, k5, k6, f1, List.length_map, Int.toNat_natCast]; repeat (simp (disch := omega) only [w64_d, ipos, ineg, dpos, dneg]; try simp (config := { maxSteps := 10000000 }) only [go_sem, List.reduceReplicate, BitVec.reduceOfInt, BitVec.reduceToNat, BitVec.reduceToInt, BitVec.reduceEq, BitVec.reduceLT, BitVec.reduceLE, BitVec.reduceAdd, BitVec.reduceSub, BitVec.reduceMul, BitVec.reduceUDiv, BitVec.reduceUMod, BitVec.reduceAnd, BitVec.reduceOr, BitVec.reduceXOr, BitVec.reduceNot, BitVec.reduceNeg, BitVec.reduceHShiftLeft, BitVec.reduceHShiftRight, Nat.reduceAdd, Nat.reduceMul, Nat.reduceSub, Nat.reduceBEq, Nat.reduceEqDiff, Nat.reduceLeDiff, Nat.reduceLT, Int.reduceLE, Int.reduceLT, Int.reduceAdd, Int.reduceSub, Int.reduceMul, Int.reduceNeg, Int.reduceToNat, Int.reduceEq, ↓reduceIte, reduceCtorEq, op_makeMap0, op_lookup, op_mapUpdate, AV.flat1, e0, e1, e4, c2, lt, k5, k6, f1, List.length_map, Int.toNat_natCast]))
                refine ⟨k + 1, by omega, by omega, ?_⟩
                rw [sL, sE]
                exact Wk.wk (by simp [lo]) (by simp [Am.get]) (by simp [AV.bel, Sc.bel, tabC_bel]) (subH_pre _ ⟨.inr (by simp [entE]), .inr (by simp [gU]), trivial⟩) (bb _ _ _)
          · obtain rfl : k = 8 := by omega
            have lS : (srt ltU (linN R 8)).length = (linN R 8).length := srt_len
            have p1 : s_sortU [.c (.sl (H.length + 1) 0 (linN R 8).length (linN R 8).length)] (H ++ [.map (linN R 8).length (entE (entN R 8)), .vec 1 ((linN R 8).map gU)]) = some (.t [], H ++ [.map (linN R 8).length (entE (entN R 8)), .vec 1 ((srt ltU (linN R 8)).map gU)]) := by
              rw [s_sortU_eq (A := linN R 8) (vecD_of (g := gU) dcU_e (by rw [hg_len_add]; rfl) rfl rfl) (by omega)]
              simp only [putV, set_len_add]; rfl
            (try simp (config := { maxSteps := 10000000 }) only [go_sem, List.reduceReplicate, BitVec.reduceOfInt, BitVec.reduceToNat, BitVec.reduceToInt, BitVec.reduceEq, BitVec.reduceLT, BitVec.reduceLE, BitVec.reduceAdd, BitVec.reduceSub, BitVec.reduceMul, BitVec.reduceUDiv, BitVec.reduceUMod, BitVec.reduceAnd, BitVec.reduceOr, BitVec.reduceXOr, BitVec.reduceNot, BitVec.reduceNeg, BitVec.reduceHShiftLeft, BitVec.reduceHShiftRight, Nat.reduceAdd, Nat.reduceMul, Nat.reduceSub, Nat.reduceBEq, Nat.reduceEqDiff, Nat.reduceLeDiff, Nat.reduceLT, Int.reduceLE, Int.reduceLT, Int.reduceAdd, Int.reduceSub, Int.reduceMul, Int.reduceNeg, Int.reduceToNat, Int.reduceEq, ↓reduceIte, reduceCtorEq, op_makeMap0, op_lookup, op_mapUpdate, p1]; repeat (simp (disch := omega) only [w64_d, ipos, ineg, dpos, dneg]; try simp (config := { maxSteps := 10000000 }) only [go_sem, List.reduceReplicate, BitVec.reduceOfInt, BitVec.reduceToNat, BitVec.reduceToInt, BitVec.reduceEq, BitVec.reduceLT, BitVec.reduceLE, BitVec.reduceAdd, BitVec.reduceSub, BitVec.reduceMul, BitVec.reduceUDiv, BitVec.reduceUMod, BitVec.reduceAnd, BitVec.reduceOr, BitVec.reduceXOr, BitVec.reduceNot, BitVec.reduceNeg, BitVec.reduceHShiftLeft, BitVec.reduceHShiftRight, Nat.reduceAdd, Nat.reduceMul, Nat.reduceSub, Nat.reduceBEq, Nat.reduceEqDiff, Nat.reduceLeDiff, Nat.reduceLT, Int.reduceLE, Int.reduceLT, Int.reduceAdd, Int.reduceSub, Int.reduceMul, Int.reduceNeg, Int.reduceToNat, Int.reduceEq, ↓reduceIte, reduceCtorEq, op_makeMap0, op_lookup, op_mapUpdate, p1]))
            show ∃ v', _ ∧ Wk _ _ _ ([(0, .c (.sl H.length 0 (srt ltU (linN R 8)).length (srt ltU (linN R 8)).length))], H ++ [.vec 1 ((srt ltU (linN R 8)).map gU)])
            rw [lS]
            exact fin_tail1 1 (Nat.le_refl _) hH rfl (map_bel gU_num _ _) ren_sl0.symm (by simp [AV.bel, Sc.bel])
    · simp at h
  · simp at h
end
end Go.Proofs.Ytbnfapacbfeabaa
