/- The law EventLogs. -/
import Derived.Test.YtamjmjllgmachaaE7
namespace Go.Proofs.Ytamjmjllgmachaa
open Go.Am
set_option linter.unusedSimpArgs false
set_option linter.unusedVariables false
noncomputable section

theorem cs_map (f : Nat → Int) : ∀ l : List Nat, csEq (l.map fun _ => Tg.n) (l.map fun q => Sc.i (f q)) (l.map fun q => Sc.i (f q)) = some true
  | [] => rfl
  | a :: l => by
    have := cs_map f l
    simp only [List.map_cons, csEq, this]
    simp [scEq]
theorem gT22 : tagsT Try.prog 12 45 = some ((List.range 22).map fun _ => Tg.n) := by kernel_rfl
theorem cnt_eq (L : List Ev) (k : Nat) : abin Try.prog .eql 45 (.g (cntC L k)) (.g (cntC L k)) = some (.c (.b true)) := by
  rw [ab_g_eql _ (by kernel_rfl) gT22]
  unfold cntC
  rw [cs_map]; rfl
def lastI (o : Option Nat) : Int := match o with
  | some i => (i : Int)
  | none => -1
/-- where the last event stands, when the first j of the kinds have been looked at -/
def lastJ (e : Ev) (h : Int) (K : List Int) (j : Nat) (k : Nat) (o : Int) : Int := if gi e.1 0 = h ∧ gi e.1 1 ∈ K.take j then (k : Int) else o
theorem lastJ_0 (e : Ev) (h : Int) (K : List Int) (k : Nat) (o : Int) : lastJ e h K 0 k o = o := by simp [lastJ]
theorem lastJ_n {L : List Ev} {e : Ev} {h : Int} {K : List Int} {k : Nat} (he : L[k]? = some e) : lastJ e h K K.length k (lastI (lastK L h K k)) = lastI (lastK L h K (k + 1)) := by
  have hp : pE L h K k = (decide (gi e.1 0 = h) && decide (gi e.1 1 ∈ K)) := by unfold pE; rw [he]
  unfold lastJ
  rw [List.take_length, lastK, hp]
  by_cases h0 : gi e.1 0 = h <;> by_cases h1 : gi e.1 1 ∈ K <;> simp [h0, h1, lastI]
theorem lastJ_y {e : Ev} {h : Int} {K : List Int} {j k : Nat} {o q : Int} (hq : K[j]? = some q) (h0 : gi e.1 0 = h) (h1 : gi e.1 1 = q) : lastJ e h K (j + 1) k o = k := by
  unfold lastJ
  rw [List.take_add_one, hq, if_pos ⟨h0, by rw [h1]; simp⟩]
theorem lastJ_x {e : Ev} {h : Int} {K : List Int} {j k : Nat} {o q : Int} (hq : K[j]? = some q) (h0 : ¬ (gi e.1 0 = h ∧ gi e.1 1 = q)) : lastJ e h K (j + 1) k o = lastJ e h K j k o := by
  unfold lastJ
  rw [List.take_add_one, hq]
  by_cases h1 : gi e.1 0 = h
  · have h2 : ¬ gi e.1 1 = q := fun h2 => h0 ⟨h1, h2⟩
    simp [h1, h2]
  · simp [h1]
theorem two_mine {x : Sc} {h : Int} {H : AH} {L : List Ev} (hH : belH H = true) (bx : x.bel H.length = true) (e : slD 65 dcE H x = some L) (hl : L.length ≤ 1000000) :
    ∃ v1 v2 H1 H2, s_emine [.c x, .c (.i h)] H = some (.c v1, H1) ∧ s_rmine [.c x, .c (.i h)] H1 = some (.c v2, H2) ∧ s_esame [.c v1, .c v2] H2 = some (.c (.b true)) ∧ (∃ X, H2 = H ++ X) ∧ belH H2 = true ∧ H.length ≤ H1.length ∧ H1.length ≤ H2.length := by
  have e1 := s_emine_of (h := h) e hl
  have ex : ∃ X, h_emine H (mineF h L) = H ++ X := by
    unfold h_emine
    split
    · exact ⟨[], by simp⟩
    · exact ⟨_, rfl⟩
  have hb1 := hb_emine hH (mineF h L)
  obtain ⟨X, hX⟩ := ex
  have e2 : slD 65 dcE (h_emine H (mineF h L)) x = some L := by rw [hX]; exact slD_app e bx
  have e3 := s_rmine_of (h := h) e2 hl
  have hb2 := hb_rmine hb1 (mineF h L)
  have ml : (mineF h L).length ≤ 1000000 := by
    have := mine_l h L L.length
    rw [List.take_length] at this; omega
  have ey : ∃ Y, h_rmine (h_emine H (mineF h L)) (mineF h L) = h_emine H (mineF h L) ++ Y := by
    unfold h_rmine
    split
    · exact ⟨[], by simp⟩
    · exact ⟨_, rfl⟩
  obtain ⟨Y, hY⟩ := ey
  have s1 : slD 65 dcE (h_emine H (mineF h L)) (v_emine H (mineF h L)) = some (mineF h L) := by
    unfold v_emine h_emine
    split
    · rename_i h0; rw [h0]; rfl
    · refine slD_of encE_l dcE_e ?_ rfl ?_
      · rw [hg_len_add]
        exact (fm_len encE_l _).symm
      · rw [hg_len_add]
        rfl
  have bv1 : (v_emine H (mineF h L)).bel (h_emine H (mineF h L)).length = true := by
    unfold v_emine h_emine
    split
    · rfl
    · simp [Sc.bel]
  have s2 : slD 65 dcE (h_rmine (h_emine H (mineF h L)) (mineF h L)) (v_rmine (h_emine H (mineF h L)) (mineF h L)) = some (mineF h L) := by
    unfold v_rmine h_rmine
    split
    · rename_i h0; rw [h0]; rfl
    · refine slD_of encE_l dcE_e ?_ rfl ?_
      · rw [hg_len_add]
        exact (fm_len encE_l _).symm
      · rw [hg_len_add]
        rfl
  have s3 : slD 65 dcE (h_rmine (h_emine H (mineF h L)) (mineF h L)) (v_emine H (mineF h L)) = some (mineF h L) := by
    rw [hY]; exact slD_app s1 bv1
  exact ⟨_, _, _, _, e1, e3, s_esame_of s3 s2 ml, ⟨X ++ Y, by rw [hY, hX, List.append_assoc]⟩, hb2, by rw [hX]; simp, by rw [hY]; simp⟩
theorem sub_row {cs E : List Sc} {a m n : Nat} (h : (cs.drop a).take 65 = E) (hm : m + n ≤ 65) : (cs.drop (a + m)).take n = (E.drop m).take n := by
  subst h
  rw [List.drop_take, List.take_take, List.drop_drop, Nat.min_eq_left (by omega)]
def s_elogs (args : List AV) (H : AH) : Option AV :=
  match args with
  | [.c x, .c (.i h), .c y] =>
    match slD 65 dcE H x, slD 1 dcI H y with
    | some L, some K => if L.length ≤ 9223372036854775807 ∧ K.length ≤ 9223372036854775807 then some (.c (.b true)) else none
    | _, _ => none
  | _ => none
theorem s_elogs_inv {args : List AV} {H : AH} {v : AV} (h : s_elogs args H = some v) : ∃ x hh y L K, args = [.c x, .c (.i hh), .c y] ∧ slD 65 dcE H x = some L ∧ slD 1 dcI H y = some K ∧ L.length ≤ 9223372036854775807 ∧ K.length ≤ 9223372036854775807 ∧ v = .c (.b true) := by
  unfold s_elogs at h
  split at h
  · split at h
    · split at h
      · rename_i h1 h2 h3
        simp only [Option.some.injEq] at h
        exact ⟨_, _, _, _, _, rfl, h1, h2, h3.1, h3.2, h.symm⟩
      · simp at h
    · simp at h
  · simp at h
set_option maxRecDepth 100000 in
set_option maxHeartbeats 16000000 in
set_option maxRecDepth 100000 in
set_option maxHeartbeats 2000000 in
theorem ok_elogs : FpOk Try.prog 4 (fun args H => (s_elogs args H).map fun v => (v, H)) := by
  refine fq_ok (s := s_elogs) (tab := [(6, .pu s_elive), (7, .fq s_eordered), (8, .fq s_rordered), (10, .fp s_emine), (11, .fp s_rmine), (9, .fq s_esame), (12, .pu s_ewrites), (13, .pu s_rwrites14), (14, .fq s_elast), (15, .fq s_ecount)]) hmix (TabOk.cons (e := .pu s_elive) ok_elive (TabOk.cons (e := .fq s_eordered) ok_eordered (TabOk.cons (e := .fq s_rordered) ok_rordered (TabOk.cons (e := .fp s_emine) ok_emine (TabOk.cons (e := .fp s_rmine) ok_rmine (TabOk.cons (e := .fq s_esame) ok_esame (TabOk.cons (e := .pu s_ewrites) ok_ewrites (TabOk.cons (e := .pu s_rwrites14) ok_rwrites14 (TabOk.cons (e := .fq s_elast) ok_elast (TabOk.cons (e := .fq s_ecount) ok_ecount TabOk.nil)))))))))) Try.func4 rfl Try.results4 Try.ntmps4 (by kernel_rfl) (by kernel_rfl) ?_
  intro args H v h hargs hH
  obtain ⟨x, hh, y, L, K, rfl, h1, h2, hL, hK, rfl⟩ := s_elogs_inv h
  refine ⟨by simp only [List.length_cons, List.length_nil]; decide, rfl, ?_⟩
  have bx : x.bel H.length = true := by simp only [List.all_cons, AV.bel, Bool.and_eq_true] at hargs; exact hargs.1
  have byy : y.bel H.length = true := by simp only [List.all_cons, AV.bel, Bool.and_eq_true] at hargs; exact hargs.2.2.1
  have hx := slD_inv dcE_d h1
  have hy := slD_inv dcI_d h2
  have xl : ∀ e, lenB (.sl e) (.c x) = some (.c (.i L.length)) := by
    intro e
    rcases hx with ⟨rfl, rfl⟩ | ⟨id2, v2, rfl, hv2, hcs2⟩ <;> rfl
  have yl : ∀ e, lenB (.sl e) (.c y) = some (.c (.i K.length)) := by
    intro e
    rcases hy with ⟨rfl, rfl⟩ | ⟨id2, v2, rfl, hv2, hcs2⟩ <;> rfl
  by_cases h60 : (60 : Int) < (L.length : Int)
  · (try simp (config := { maxSteps := 10000000 }) only [go_sem, List.reduceReplicate, BitVec.reduceOfInt, BitVec.reduceToNat, BitVec.reduceToInt, BitVec.reduceEq, BitVec.reduceLT, BitVec.reduceLE, BitVec.reduceAdd, BitVec.reduceSub, BitVec.reduceMul, BitVec.reduceUDiv, BitVec.reduceUMod, BitVec.reduceAnd, BitVec.reduceOr, BitVec.reduceXOr, BitVec.reduceNot, BitVec.reduceNeg, BitVec.reduceHShiftLeft, BitVec.reduceHShiftRight, Nat.reduceAdd, Nat.reduceMul, Nat.reduceSub, Nat.reduceBEq, Nat.reduceEqDiff, Nat.reduceLeDiff, Nat.reduceLT, Int.reduceLE, Int.reduceLT, Int.reduceAdd, Int.reduceSub, Int.reduceMul, Int.reduceNeg, Int.reduceToNat, Int.reduceEq, ↓reduceIte, reduceCtorEq, s_elive_eq, xl, yl, h60]; repeat (simp (disch := omega) only [w64_d, ipos, ineg, dpos, dneg]; try simp (config := { maxSteps := 10000000 }) only [go_sem, List.reduceReplicate, BitVec.reduceOfInt, BitVec.reduceToNat, BitVec.reduceToInt, BitVec.reduceEq, BitVec.reduceLT, BitVec.reduceLE, BitVec.reduceAdd, BitVec.reduceSub, BitVec.reduceMul, BitVec.reduceUDiv, BitVec.reduceUMod, BitVec.reduceAnd, BitVec.reduceOr, BitVec.reduceXOr, BitVec.reduceNot, BitVec.reduceNeg, BitVec.reduceHShiftLeft, BitVec.reduceHShiftRight, Nat.reduceAdd, Nat.reduceMul, Nat.reduceSub, Nat.reduceBEq, Nat.reduceEqDiff, Nat.reduceLeDiff, Nat.reduceLT, Int.reduceLE, Int.reduceLT, Int.reduceAdd, Int.reduceSub, Int.reduceMul, Int.reduceNeg, Int.reduceToNat, Int.reduceEq, ↓reduceIte, reduceCtorEq, s_elive_eq, xl, yl, h60]))
    exact subH_refl _
  by_cases h10 : (10 : Int) < (K.length : Int)
  · (try simp (config := { maxSteps := 10000000 }) only [go_sem, List.reduceReplicate, BitVec.reduceOfInt, BitVec.reduceToNat, BitVec.reduceToInt, BitVec.reduceEq, BitVec.reduceLT, BitVec.reduceLE, BitVec.reduceAdd, BitVec.reduceSub, BitVec.reduceMul, BitVec.reduceUDiv, BitVec.reduceUMod, BitVec.reduceAnd, BitVec.reduceOr, BitVec.reduceXOr, BitVec.reduceNot, BitVec.reduceNeg, BitVec.reduceHShiftLeft, BitVec.reduceHShiftRight, Nat.reduceAdd, Nat.reduceMul, Nat.reduceSub, Nat.reduceBEq, Nat.reduceEqDiff, Nat.reduceLeDiff, Nat.reduceLT, Int.reduceLE, Int.reduceLT, Int.reduceAdd, Int.reduceSub, Int.reduceMul, Int.reduceNeg, Int.reduceToNat, Int.reduceEq, ↓reduceIte, reduceCtorEq, s_elive_eq, xl, yl, h60, h10]; repeat (simp (disch := omega) only [w64_d, ipos, ineg, dpos, dneg]; try simp (config := { maxSteps := 10000000 }) only [go_sem, List.reduceReplicate, BitVec.reduceOfInt, BitVec.reduceToNat, BitVec.reduceToInt, BitVec.reduceEq, BitVec.reduceLT, BitVec.reduceLE, BitVec.reduceAdd, BitVec.reduceSub, BitVec.reduceMul, BitVec.reduceUDiv, BitVec.reduceUMod, BitVec.reduceAnd, BitVec.reduceOr, BitVec.reduceXOr, BitVec.reduceNot, BitVec.reduceNeg, BitVec.reduceHShiftLeft, BitVec.reduceHShiftRight, Nat.reduceAdd, Nat.reduceMul, Nat.reduceSub, Nat.reduceBEq, Nat.reduceEqDiff, Nat.reduceLeDiff, Nat.reduceLT, Int.reduceLE, Int.reduceLT, Int.reduceAdd, Int.reduceSub, Int.reduceMul, Int.reduceNeg, Int.reduceToNat, Int.reduceEq, ↓reduceIte, reduceCtorEq, s_elive_eq, xl, yl, h60, h10]))
    exact subH_refl _
  have ll : L.length ≤ 60 := by omega
  have kl : K.length ≤ 10 := by omega
  have k0 := s_eordered_eq h1 (by omega)
  have k1 := s_rordered_eq h1 (by omega)
  obtain ⟨v1, v2, H1, H2, m1, m2, m3, ⟨Z, hZ⟩, hb2, _, _⟩ := two_mine (h := hh) hH bx h1 (by omega)
  have l2 : H.length ≤ H2.length := by rw [hZ]; simp
  (try simp (config := { maxSteps := 10000000 }) only [go_sem, List.reduceReplicate, BitVec.reduceOfInt, BitVec.reduceToNat, BitVec.reduceToInt, BitVec.reduceEq, BitVec.reduceLT, BitVec.reduceLE, BitVec.reduceAdd, BitVec.reduceSub, BitVec.reduceMul, BitVec.reduceUDiv, BitVec.reduceUMod, BitVec.reduceAnd, BitVec.reduceOr, BitVec.reduceXOr, BitVec.reduceNot, BitVec.reduceNeg, BitVec.reduceHShiftLeft, BitVec.reduceHShiftRight, Nat.reduceAdd, Nat.reduceMul, Nat.reduceSub, Nat.reduceBEq, Nat.reduceEqDiff, Nat.reduceLeDiff, Nat.reduceLT, Int.reduceLE, Int.reduceLT, Int.reduceAdd, Int.reduceSub, Int.reduceMul, Int.reduceNeg, Int.reduceToNat, Int.reduceEq, ↓reduceIte, reduceCtorEq, s_elive_eq, xl, yl, h60, h10, k0, k1, m1, m2, m3]; repeat (simp (disch := omega) only [w64_d, ipos, ineg, dpos, dneg]; try simp (config := { maxSteps := 10000000 }) only [go_sem, List.reduceReplicate, BitVec.reduceOfInt, BitVec.reduceToNat, BitVec.reduceToInt, BitVec.reduceEq, BitVec.reduceLT, BitVec.reduceLE, BitVec.reduceAdd, BitVec.reduceSub, BitVec.reduceMul, BitVec.reduceUDiv, BitVec.reduceUMod, BitVec.reduceAnd, BitVec.reduceOr, BitVec.reduceXOr, BitVec.reduceNot, BitVec.reduceNeg, BitVec.reduceHShiftLeft, BitVec.reduceHShiftRight, Nat.reduceAdd, Nat.reduceMul, Nat.reduceSub, Nat.reduceBEq, Nat.reduceEqDiff, Nat.reduceLeDiff, Nat.reduceLT, Int.reduceLE, Int.reduceLT, Int.reduceAdd, Int.reduceSub, Int.reduceMul, Int.reduceNeg, Int.reduceToNat, Int.reduceEq, ↓reduceIte, reduceCtorEq, s_elive_eq, xl, yl, h60, h10, k0, k1, m1, m2, m3]))
  have bx2 : x.bel H2.length = true := Sc.bel_mono bx l2
  have by2 : y.bel H2.length = true := Sc.bel_mono byy l2
  have fin : ∀ X, subH H (H2 ++ X) := fun X => by rw [hZ, List.append_assoc]; exact subH_app _ _
  have h1z : ∀ X, slD 65 dcE (H2 ++ X) x = some L := fun X => by rw [hZ, List.append_assoc]; exact slD_app h1 bx
  have h2z : ∀ X, slD 1 dcI (H2 ++ X) y = some K := fun X => by rw [hZ, List.append_assoc]; exact slD_app h2 byy
  have bh : ∀ k, belH (H2 ++ [.own (cntC L k)]) = true := fun k => bel_app hb2 (cntC_bel _ _ _).1
  refine arun_for L.length (fun k => ([(0, .c x), (1, .c (.i hh)), (2, .c y), (11, .c (.i (lastI (lastK L hh K k)))), (12, .c (.p H2.length 0 0)), (13, .c (.i k))], H2 ++ [.own (cntC L k)])) ?_ fun k hk => ?_
  · refine Wk.wk (by simp [lo]; omega) (by simp [Am.get, lastI, lastK]) ?_ (by rw [cntC_0]; exact subH_refl _) (bh 0)
    have ll : ∀ a : AObj, (H2 ++ [a]).length = H2.length + 1 := fun a => by simp
    simp only [ll, List.all_cons, List.all_nil, Bool.and_true, Bool.and_eq_true, AV.bel]
    exact ⟨Sc.bel_mono bx2 (by omega), rfl, Sc.bel_mono by2 (by omega), rfl, by simp [Sc.bel], rfl⟩
  have k0 : (0 : Int) ≤ (k : Int) := by omega
  have cl := cntC_len L k
  have co := (cntC_bel L k 0).2
  by_cases hlt : k < L.length
  rotate_left
  · obtain rfl : k = L.length := by omega
    have tk : (cntC L L.length).take 22 = cntC L L.length := by rw [← cl, List.take_length]
    have r1 : ∀ X, s_elast [.c x, .c (.i hh), .c y] (H2 ++ X) = _ := fun X => s_elast_of (h := hh) (h1z X) (h2z X) ⟨by omega, by omega⟩
    have r2 : ∀ X, s_ecount [.c x] (H2 ++ X) = _ := fun X => s_ecount_of (h1z X) (by omega)
    have r3 := cnt_eq L L.length
    have r4 : ∀ i : Nat, (0 : Int) ≤ (i : Int) := fun i => Int.natCast_nonneg i
    cases hlk : lastK L hh K L.length with
    | none =>
      rw [hlk] at r1
      simp only [lastV, Option.isSome_none] at r1
      simp only [lastI]
      (try simp (config := { maxSteps := 10000000 }) only [go_sem, List.reduceReplicate, BitVec.reduceOfInt, BitVec.reduceToNat, BitVec.reduceToInt, BitVec.reduceEq, BitVec.reduceLT, BitVec.reduceLE, BitVec.reduceAdd, BitVec.reduceSub, BitVec.reduceMul, BitVec.reduceUDiv, BitVec.reduceUMod, BitVec.reduceAnd, BitVec.reduceOr, BitVec.reduceXOr, BitVec.reduceNot, BitVec.reduceNeg, BitVec.reduceHShiftLeft, BitVec.reduceHShiftRight, Nat.reduceAdd, Nat.reduceMul, Nat.reduceSub, Nat.reduceBEq, Nat.reduceEqDiff, Nat.reduceLeDiff, Nat.reduceLT, Int.reduceLE, Int.reduceLT, Int.reduceAdd, Int.reduceSub, Int.reduceMul, Int.reduceNeg, Int.reduceToNat, Int.reduceEq, ↓reduceIte, reduceCtorEq, s_elive_eq, xl, cl, co, tk, r1, r2, r3]; repeat (simp (disch := omega) only [w64_d, ipos, ineg, dpos, dneg]; try simp (config := { maxSteps := 10000000 }) only [go_sem, List.reduceReplicate, BitVec.reduceOfInt, BitVec.reduceToNat, BitVec.reduceToInt, BitVec.reduceEq, BitVec.reduceLT, BitVec.reduceLE, BitVec.reduceAdd, BitVec.reduceSub, BitVec.reduceMul, BitVec.reduceUDiv, BitVec.reduceUMod, BitVec.reduceAnd, BitVec.reduceOr, BitVec.reduceXOr, BitVec.reduceNot, BitVec.reduceNeg, BitVec.reduceHShiftLeft, BitVec.reduceHShiftRight, Nat.reduceAdd, Nat.reduceMul, Nat.reduceSub, Nat.reduceBEq, Nat.reduceEqDiff, Nat.reduceLeDiff, Nat.reduceLT, Int.reduceLE, Int.reduceLT, Int.reduceAdd, Int.reduceSub, Int.reduceMul, Int.reduceNeg, Int.reduceToNat, Int.reduceEq, ↓reduceIte, reduceCtorEq, s_elive_eq, xl, cl, co, tk, r1, r2, r3]))
      exact fin _
    | some i =>
      rw [hlk] at r1
      simp only [lastV, Option.isSome_some] at r1
      simp only [lastI]
      (try simp (config := { maxSteps := 10000000 }) only [go_sem, List.reduceReplicate, BitVec.reduceOfInt, BitVec.reduceToNat, BitVec.reduceToInt, BitVec.reduceEq, BitVec.reduceLT, BitVec.reduceLE, BitVec.reduceAdd, BitVec.reduceSub, BitVec.reduceMul, BitVec.reduceUDiv, BitVec.reduceUMod, BitVec.reduceAnd, BitVec.reduceOr, BitVec.reduceXOr, BitVec.reduceNot, BitVec.reduceNeg, BitVec.reduceHShiftLeft, BitVec.reduceHShiftRight, Nat.reduceAdd, Nat.reduceMul, Nat.reduceSub, Nat.reduceBEq, Nat.reduceEqDiff, Nat.reduceLeDiff, Nat.reduceLT, Int.reduceLE, Int.reduceLT, Int.reduceAdd, Int.reduceSub, Int.reduceMul, Int.reduceNeg, Int.reduceToNat, Int.reduceEq, ↓reduceIte, reduceCtorEq, s_elive_eq, xl, cl, co, tk, r1, r2, r3, r4]; repeat (simp (disch := omega) only [w64_d, ipos, ineg, dpos, dneg]; try simp (config := { maxSteps := 10000000 }) only [go_sem, List.reduceReplicate, BitVec.reduceOfInt, BitVec.reduceToNat, BitVec.reduceToInt, BitVec.reduceEq, BitVec.reduceLT, BitVec.reduceLE, BitVec.reduceAdd, BitVec.reduceSub, BitVec.reduceMul, BitVec.reduceUDiv, BitVec.reduceUMod, BitVec.reduceAnd, BitVec.reduceOr, BitVec.reduceXOr, BitVec.reduceNot, BitVec.reduceNeg, BitVec.reduceHShiftLeft, BitVec.reduceHShiftRight, Nat.reduceAdd, Nat.reduceMul, Nat.reduceSub, Nat.reduceBEq, Nat.reduceEqDiff, Nat.reduceLeDiff, Nat.reduceLT, Int.reduceLE, Int.reduceLT, Int.reduceAdd, Int.reduceSub, Int.reduceMul, Int.reduceNeg, Int.reduceToNat, Int.reduceEq, ↓reduceIte, reduceCtorEq, s_elive_eq, xl, cl, co, tk, r1, r2, r3, r4]))
      exact fin _
  have kI : ((k : Int) < (L.length : Int)) := by omega
  obtain ⟨e, he⟩ : ∃ e, L[k]? = some e := ⟨_, List.getElem?_eq_getElem hlt⟩
  have e1 : w64 ((k : Int) + 1) = ((k + 1 : Nat) : Int) := by rw [w64_of (by omega)]; omega
  rcases hx with ⟨rfl, rfl⟩ | ⟨i1, v3, rfl, hv1, hcs1⟩
  · simp at hlt
  have lid1 : i1 < H.length := by simpa [Sc.bel] using bx
  have gx1 : ∀ X, hg (H2 ++ X) i1 = hg H i1 := fun X => by rw [hZ, List.append_assoc]; exact hg_lt' lid1
  have hv1 := hv1.symm
  have b1 : (k * 65 + 65 ≤ (hg H i1).cells.length) = True := eq_true (by rw [hcs1]; exact fm_le encE_l hlt)
  have b2 : (k * 65 + 1 ≤ (hg H i1).cells.length) = True := eq_true (Nat.le_trans (by omega) (of_eq_true b1))
  have b3 : (k * 65 + 1 + 1 ≤ (hg H i1).cells.length) = True := eq_true (Nat.le_trans (by omega) (of_eq_true b1))
  have b4 : (k * 65 + 2 ≤ (hg H i1).cells.length) = True := eq_true (Nat.le_trans (by omega) (of_eq_true b1))
  have b5 : (k * 65 + 1 + 19 ≤ (hg H i1).cells.length) = True := eq_true (Nat.le_trans (by omega) (of_eq_true b1))
  have b6 : (k * 65 + 20 + 42 ≤ (hg H i1).cells.length) = True := eq_true (Nat.le_trans (by omega) (of_eq_true b1))
  have b7 : (k * 65 + 20 ≤ (hg H i1).cells.length) = True := eq_true (Nat.le_trans (by omega) (of_eq_true b1))
  have b8 : (k * 65 + 62 ≤ (hg H i1).cells.length) = True := eq_true (Nat.le_trans (by omega) (of_eq_true b1))
  have g3 : ((hg H i1).cells.drop (k * 65)).take 65 = encE e := by rw [hcs1]; exact fm_get encE_l he
  have g4 : ((hg H i1).cells.drop (k * 65 + 1)).take 19 = ((encE e).drop 1).take 19 := sub_row g3 (by decide)
  have g5 : ((hg H i1).cells.drop (k * 65 + 20)).take 42 = ((encE e).drop 20).take 42 := sub_row g3 (by decide)
  have le : (encE e).length = 65 := encE_l e
  have oe : (encE e).all Sc.one = true := (fit_all e.2).1
  have ie : isE (encE e) := e.2
  have lq : (((encE e).drop 1).take 19).length = 19 := by simp [le]
  have ln : (((encE e).drop 20).take 42).length = 42 := by simp [le]
  have oq : (((encE e).drop 1).take 19).all Sc.one = true := List.all_eq_true.2 fun s hs => List.all_eq_true.1 oe s (List.mem_of_mem_drop (List.mem_of_mem_take hs))
  have on : (((encE e).drop 20).take 42).all Sc.one = true := List.all_eq_true.2 fun s hs => List.all_eq_true.1 oe s (List.mem_of_mem_drop (List.mem_of_mem_take hs))
  obtain ⟨q1, q2⟩ := ev_q ie
  obtain ⟨n1, n2⟩ := ev_n ie
  have f1 : (encE e).getD 1 .any = .i (gi e.1 1) := (fit_i e.2 1 rfl).1
  have g0 : (hg H i1).cells.getD (k * 65) .any = .i (gi e.1 0) := by
    have := fm_cell encE_l he (i := 0) (by decide)
    rw [Nat.add_zero] at this
    rw [hcs1, this]; exact (fit_i e.2 0 rfl).1
  have g1 : (hg H i1).cells.getD (k * 65 + 1) .any = .i (gi e.1 1) := by
    have := fm_cell encE_l he (i := 1) (by decide)
    rw [hcs1, this]; exact f1
  have cb := cntF_le L k (kdN e)
  have cw : w64 (cntF L k (kdN e) + 1) = cntF L k (kdN e) + 1 := w64_of (by omega)
  have cs := cntC_s he
  have cg := cntC_get (L := L) (k := k) (kdN_lt e)
  have lN := lastJ_n (h := hh) (K := K) he
  have three : (gi e.1 1 < 1 ∧ kdN e = 0) ∨ (¬ gi e.1 1 < 1 ∧ 20 < gi e.1 1 ∧ kdN e = 0) ∨ (¬ gi e.1 1 < 1 ∧ ¬ 20 < gi e.1 1 ∧ kdN e = (gi e.1 1).toNat) := by
    unfold kdN knownB
    by_cases c1 : gi e.1 1 < 1
    · exact .inl ⟨c1, if_neg (by simp; omega)⟩
    · by_cases c2 : 20 < gi e.1 1
      · exact .inr (.inl ⟨c1, c2, if_neg (by simp; omega)⟩)
      · exact .inr (.inr ⟨c1, c2, if_pos (by simp; omega)⟩)
  have three' : ∀ m : Nat, kdN e = m → m < 22 := fun m hm => by rw [← hm]; exact kdN_lt e
  rcases three with ⟨c1, hq⟩ | ⟨c1, c2, hq⟩ | ⟨c1, c2, hq⟩
  case' inl =>
    rw [hq] at cs cg cw
    simp only [List.take_zero, List.nil_append, Nat.zero_add] at cs
    (try simp (config := { maxSteps := 10000000 }) only [go_sem, List.reduceReplicate, BitVec.reduceOfInt, BitVec.reduceToNat, BitVec.reduceToInt, BitVec.reduceEq, BitVec.reduceLT, BitVec.reduceLE, BitVec.reduceAdd, BitVec.reduceSub, BitVec.reduceMul, BitVec.reduceUDiv, BitVec.reduceUMod, BitVec.reduceAnd, BitVec.reduceOr, BitVec.reduceXOr, BitVec.reduceNot, BitVec.reduceNeg, BitVec.reduceHShiftLeft, BitVec.reduceHShiftRight, Nat.reduceAdd, Nat.reduceMul, Nat.reduceSub, Nat.reduceBEq, Nat.reduceEqDiff, Nat.reduceLeDiff, Nat.reduceLT, Int.reduceLE, Int.reduceLT, Int.reduceAdd, Int.reduceSub, Int.reduceMul, Int.reduceNeg, Int.reduceToNat, Int.reduceEq, ↓reduceIte, reduceCtorEq, s_ewrites_eq, s_rwrites14_eq, xl, kI, k0, e1, gx1, hv1, b1, b2, b3, b4, b5, b6, b7, b8, g0, g1, g3, g4, g5, le, oe, ie, lq, ln, oq, on, q1, q2, n1, n2, f1, cl, cg, cw, cs, c1]; repeat (simp (disch := omega) only [w64_d, ipos, ineg, dpos, dneg]; try simp (config := { maxSteps := 10000000 }) only [go_sem, List.reduceReplicate, BitVec.reduceOfInt, BitVec.reduceToNat, BitVec.reduceToInt, BitVec.reduceEq, BitVec.reduceLT, BitVec.reduceLE, BitVec.reduceAdd, BitVec.reduceSub, BitVec.reduceMul, BitVec.reduceUDiv, BitVec.reduceUMod, BitVec.reduceAnd, BitVec.reduceOr, BitVec.reduceXOr, BitVec.reduceNot, BitVec.reduceNeg, BitVec.reduceHShiftLeft, BitVec.reduceHShiftRight, Nat.reduceAdd, Nat.reduceMul, Nat.reduceSub, Nat.reduceBEq, Nat.reduceEqDiff, Nat.reduceLeDiff, Nat.reduceLT, Int.reduceLE, Int.reduceLT, Int.reduceAdd, Int.reduceSub, Int.reduceMul, Int.reduceNeg, Int.reduceToNat, Int.reduceEq, ↓reduceIte, reduceCtorEq, s_ewrites_eq, s_rwrites14_eq, xl, kI, k0, e1, gx1, hv1, b1, b2, b3, b4, b5, b6, b7, b8, g0, g1, g3, g4, g5, le, oe, ie, lq, ln, oq, on, q1, q2, n1, n2, f1, cl, cg, cw, cs, c1]))
  case' inr.inr.inl =>
    rw [hq] at cs cg cw
    simp only [List.take_zero, List.nil_append, Nat.zero_add] at cs
    (try simp (config := { maxSteps := 10000000 }) only [go_sem, List.reduceReplicate, BitVec.reduceOfInt, BitVec.reduceToNat, BitVec.reduceToInt, BitVec.reduceEq, BitVec.reduceLT, BitVec.reduceLE, BitVec.reduceAdd, BitVec.reduceSub, BitVec.reduceMul, BitVec.reduceUDiv, BitVec.reduceUMod, BitVec.reduceAnd, BitVec.reduceOr, BitVec.reduceXOr, BitVec.reduceNot, BitVec.reduceNeg, BitVec.reduceHShiftLeft, BitVec.reduceHShiftRight, Nat.reduceAdd, Nat.reduceMul, Nat.reduceSub, Nat.reduceBEq, Nat.reduceEqDiff, Nat.reduceLeDiff, Nat.reduceLT, Int.reduceLE, Int.reduceLT, Int.reduceAdd, Int.reduceSub, Int.reduceMul, Int.reduceNeg, Int.reduceToNat, Int.reduceEq, ↓reduceIte, reduceCtorEq, s_ewrites_eq, s_rwrites14_eq, xl, kI, k0, e1, gx1, hv1, b1, b2, b3, b4, b5, b6, b7, b8, g0, g1, g3, g4, g5, le, oe, ie, lq, ln, oq, on, q1, q2, n1, n2, f1, cl, cg, cw, cs, c1, c2]; repeat (simp (disch := omega) only [w64_d, ipos, ineg, dpos, dneg]; try simp (config := { maxSteps := 10000000 }) only [go_sem, List.reduceReplicate, BitVec.reduceOfInt, BitVec.reduceToNat, BitVec.reduceToInt, BitVec.reduceEq, BitVec.reduceLT, BitVec.reduceLE, BitVec.reduceAdd, BitVec.reduceSub, BitVec.reduceMul, BitVec.reduceUDiv, BitVec.reduceUMod, BitVec.reduceAnd, BitVec.reduceOr, BitVec.reduceXOr, BitVec.reduceNot, BitVec.reduceNeg, BitVec.reduceHShiftLeft, BitVec.reduceHShiftRight, Nat.reduceAdd, Nat.reduceMul, Nat.reduceSub, Nat.reduceBEq, Nat.reduceEqDiff, Nat.reduceLeDiff, Nat.reduceLT, Int.reduceLE, Int.reduceLT, Int.reduceAdd, Int.reduceSub, Int.reduceMul, Int.reduceNeg, Int.reduceToNat, Int.reduceEq, ↓reduceIte, reduceCtorEq, s_ewrites_eq, s_rwrites14_eq, xl, kI, k0, e1, gx1, hv1, b1, b2, b3, b4, b5, b6, b7, b8, g0, g1, g3, g4, g5, le, oe, ie, lq, ln, oq, on, q1, q2, n1, n2, f1, cl, cg, cw, cs, c1, c2]))
  case' inr.inr.inr =>
    have q0 : 0 ≤ gi e.1 1 := by omega
    have qa : gi e.1 1 < 22 := by omega
    have qb : ((gi e.1 1).toNat + 1 ≤ 22) = True := eq_true (by omega)
    rw [hq] at cs cg cw
    (try simp (config := { maxSteps := 10000000 }) only [go_sem, List.reduceReplicate, BitVec.reduceOfInt, BitVec.reduceToNat, BitVec.reduceToInt, BitVec.reduceEq, BitVec.reduceLT, BitVec.reduceLE, BitVec.reduceAdd, BitVec.reduceSub, BitVec.reduceMul, BitVec.reduceUDiv, BitVec.reduceUMod, BitVec.reduceAnd, BitVec.reduceOr, BitVec.reduceXOr, BitVec.reduceNot, BitVec.reduceNeg, BitVec.reduceHShiftLeft, BitVec.reduceHShiftRight, Nat.reduceAdd, Nat.reduceMul, Nat.reduceSub, Nat.reduceBEq, Nat.reduceEqDiff, Nat.reduceLeDiff, Nat.reduceLT, Int.reduceLE, Int.reduceLT, Int.reduceAdd, Int.reduceSub, Int.reduceMul, Int.reduceNeg, Int.reduceToNat, Int.reduceEq, ↓reduceIte, reduceCtorEq, s_ewrites_eq, s_rwrites14_eq, xl, kI, k0, e1, gx1, hv1, b1, b2, b3, b4, b5, b6, b7, b8, g0, g1, g3, g4, g5, le, oe, ie, lq, ln, oq, on, q1, q2, n1, n2, f1, cl, cg, cw, cs, c1, c2, q0, qa, qb]; repeat (simp (disch := omega) only [w64_d, ipos, ineg, dpos, dneg]; try simp (config := { maxSteps := 10000000 }) only [go_sem, List.reduceReplicate, BitVec.reduceOfInt, BitVec.reduceToNat, BitVec.reduceToInt, BitVec.reduceEq, BitVec.reduceLT, BitVec.reduceLE, BitVec.reduceAdd, BitVec.reduceSub, BitVec.reduceMul, BitVec.reduceUDiv, BitVec.reduceUMod, BitVec.reduceAnd, BitVec.reduceOr, BitVec.reduceXOr, BitVec.reduceNot, BitVec.reduceNeg, BitVec.reduceHShiftLeft, BitVec.reduceHShiftRight, Nat.reduceAdd, Nat.reduceMul, Nat.reduceSub, Nat.reduceBEq, Nat.reduceEqDiff, Nat.reduceLeDiff, Nat.reduceLT, Int.reduceLE, Int.reduceLT, Int.reduceAdd, Int.reduceSub, Int.reduceMul, Int.reduceNeg, Int.reduceToNat, Int.reduceEq, ↓reduceIte, reduceCtorEq, s_ewrites_eq, s_rwrites14_eq, xl, kI, k0, e1, gx1, hv1, b1, b2, b3, b4, b5, b6, b7, b8, g0, g1, g3, g4, g5, le, oe, ie, lq, ln, oq, on, q1, q2, n1, n2, f1, cl, cg, cw, cs, c1, c2, q0, qa, qb]))
  all_goals
    refine arun_for K.length (fun j => ([(0, .c (.sl i1 0 v3 L.length)), (1, .c (.i hh)), (2, .c y), (11, .c (.i (lastJ e hh K j k (lastI (lastK L hh K k))))), (12, .c (.p H2.length 0 0)), (13, .c (.i k)), (15, .c (.i j))], H2 ++ [.own (cntC L (k + 1))])) ?_ fun j hj => ?_
    · refine Wk.wk (by simp [lo]; omega) (by simp [Am.get, lastJ_0]) ?_ (subH_refl _) (bh (k + 1))
      have ll : ∀ a : AObj, (H2 ++ [a]).length = H2.length + 1 := fun a => by simp
      simp only [ll, List.all_cons, List.all_nil, Bool.and_true, Bool.and_eq_true, AV.bel]
      exact ⟨Sc.bel_mono bx2 (by omega), rfl, Sc.bel_mono by2 (by omega), rfl, by simp [Sc.bel], rfl, rfl⟩
    have j0 : (0 : Int) ≤ (j : Int) := by omega
    have bf : ∀ (o : Int) (m : Nat), (([(0, .c (.sl i1 0 v3 L.length)), (1, .c (.i hh)), (2, .c y), (11, .c (.i o)), (12, .c (.p H2.length 0 0)), (13, .c (.i k)), (15, .c (.i m))] : Fr).all fun p => p.2.bel (H2 ++ [AObj.own (cntC L (k + 1))]).length) = true := by
      intro o m
      have ll : ∀ a : AObj, (H2 ++ [a]).length = H2.length + 1 := fun a => by simp
      simp only [ll, List.all_cons, List.all_nil, Bool.and_true, Bool.and_eq_true, AV.bel]
      exact ⟨Sc.bel_mono bx2 (by omega), rfl, Sc.bel_mono by2 (by omega), rfl, by simp [Sc.bel], rfl, rfl⟩
    by_cases hjl : j < K.length
    rotate_left
    · obtain rfl : j = K.length := by omega
      have kn : ¬ ((K.length : Int) < (K.length : Int)) := by omega
      (try simp (config := { maxSteps := 10000000 }) only [go_sem, List.reduceReplicate, BitVec.reduceOfInt, BitVec.reduceToNat, BitVec.reduceToInt, BitVec.reduceEq, BitVec.reduceLT, BitVec.reduceLE, BitVec.reduceAdd, BitVec.reduceSub, BitVec.reduceMul, BitVec.reduceUDiv, BitVec.reduceUMod, BitVec.reduceAnd, BitVec.reduceOr, BitVec.reduceXOr, BitVec.reduceNot, BitVec.reduceNeg, BitVec.reduceHShiftLeft, BitVec.reduceHShiftRight, Nat.reduceAdd, Nat.reduceMul, Nat.reduceSub, Nat.reduceBEq, Nat.reduceEqDiff, Nat.reduceLeDiff, Nat.reduceLT, Int.reduceLE, Int.reduceLT, Int.reduceAdd, Int.reduceSub, Int.reduceMul, Int.reduceNeg, Int.reduceToNat, Int.reduceEq, ↓reduceIte, reduceCtorEq, yl, e1]; repeat (simp (disch := omega) only [w64_d, ipos, ineg, dpos, dneg]; try simp (config := { maxSteps := 10000000 }) only [go_sem, List.reduceReplicate, BitVec.reduceOfInt, BitVec.reduceToNat, BitVec.reduceToInt, BitVec.reduceEq, BitVec.reduceLT, BitVec.reduceLE, BitVec.reduceAdd, BitVec.reduceSub, BitVec.reduceMul, BitVec.reduceUDiv, BitVec.reduceUMod, BitVec.reduceAnd, BitVec.reduceOr, BitVec.reduceXOr, BitVec.reduceNot, BitVec.reduceNeg, BitVec.reduceHShiftLeft, BitVec.reduceHShiftRight, Nat.reduceAdd, Nat.reduceMul, Nat.reduceSub, Nat.reduceBEq, Nat.reduceEqDiff, Nat.reduceLeDiff, Nat.reduceLT, Int.reduceLE, Int.reduceLT, Int.reduceAdd, Int.reduceSub, Int.reduceMul, Int.reduceNeg, Int.reduceToNat, Int.reduceEq, ↓reduceIte, reduceCtorEq, yl, e1]))
      refine ⟨k + 1, by omega, by omega, Wk.wk (by simp [lo]; omega) (by simp [Am.get, lN]) ?_ (subH_refl _) (bh (k + 1))⟩
      have ll : ∀ a : AObj, (H2 ++ [a]).length = H2.length + 1 := fun a => by simp
      simp only [ll, List.all_cons, List.all_nil, Bool.and_true, Bool.and_eq_true, AV.bel]
      exact ⟨Sc.bel_mono bx2 (by omega), rfl, Sc.bel_mono by2 (by omega), rfl, by simp [Sc.bel], rfl⟩
    have jI : ((j : Int) < (K.length : Int)) := by omega
    obtain ⟨q, hq2⟩ : ∃ q, K[j]? = some q := ⟨_, List.getElem?_eq_getElem hjl⟩
    have e2 : w64 ((j : Int) + 1) = ((j + 1 : Nat) : Int) := by rw [w64_of (by omega)]; omega
    rcases hy with ⟨rfl, rfl⟩ | ⟨i2, v4, rfl, hv4, hcs2⟩
    · simp at hjl
    have lid2 : i2 < H.length := by simpa [Sc.bel] using byy
    have gx2 : ∀ X, hg (H2 ++ X) i2 = hg H i2 := fun X => by rw [hZ, List.append_assoc]; exact hg_lt' lid2
    have hv4 := hv4.symm
    have d1 : (hg H i2).cells.getD j .any = .i q := by rw [hcs2]; exact fm1 (g := Sc.i) (fun _ => rfl) hq2
    have d2 : j + 1 ≤ (hg H i2).cells.length := by
      rw [hcs2]
      have := fm_le encI_l (L := K) (k := j) hjl
      omega
    by_cases h0 : gi e.1 0 = hh
    · by_cases h1 : gi e.1 1 = q
      · have ly := lastJ_y (k := k) (o := lastI (lastK L hh K k)) hq2 h0 h1
        (try simp (config := { maxSteps := 10000000 }) only [go_sem, List.reduceReplicate, BitVec.reduceOfInt, BitVec.reduceToNat, BitVec.reduceToInt, BitVec.reduceEq, BitVec.reduceLT, BitVec.reduceLE, BitVec.reduceAdd, BitVec.reduceSub, BitVec.reduceMul, BitVec.reduceUDiv, BitVec.reduceUMod, BitVec.reduceAnd, BitVec.reduceOr, BitVec.reduceXOr, BitVec.reduceNot, BitVec.reduceNeg, BitVec.reduceHShiftLeft, BitVec.reduceHShiftRight, Nat.reduceAdd, Nat.reduceMul, Nat.reduceSub, Nat.reduceBEq, Nat.reduceEqDiff, Nat.reduceLeDiff, Nat.reduceLT, Int.reduceLE, Int.reduceLT, Int.reduceAdd, Int.reduceSub, Int.reduceMul, Int.reduceNeg, Int.reduceToNat, Int.reduceEq, ↓reduceIte, reduceCtorEq, xl, yl, kI, k0, jI, j0, e2, gx1, gx2, hv1, hv4, b1, b2, b3, b4, g0, g1, d1, d2, h0, h1]; repeat (simp (disch := omega) only [w64_d, ipos, ineg, dpos, dneg]; try simp (config := { maxSteps := 10000000 }) only [go_sem, List.reduceReplicate, BitVec.reduceOfInt, BitVec.reduceToNat, BitVec.reduceToInt, BitVec.reduceEq, BitVec.reduceLT, BitVec.reduceLE, BitVec.reduceAdd, BitVec.reduceSub, BitVec.reduceMul, BitVec.reduceUDiv, BitVec.reduceUMod, BitVec.reduceAnd, BitVec.reduceOr, BitVec.reduceXOr, BitVec.reduceNot, BitVec.reduceNeg, BitVec.reduceHShiftLeft, BitVec.reduceHShiftRight, Nat.reduceAdd, Nat.reduceMul, Nat.reduceSub, Nat.reduceBEq, Nat.reduceEqDiff, Nat.reduceLeDiff, Nat.reduceLT, Int.reduceLE, Int.reduceLT, Int.reduceAdd, Int.reduceSub, Int.reduceMul, Int.reduceNeg, Int.reduceToNat, Int.reduceEq, ↓reduceIte, reduceCtorEq, xl, yl, kI, k0, jI, j0, e2, gx1, gx2, hv1, hv4, b1, b2, b3, b4, g0, g1, d1, d2, h0, h1]))
        exact ⟨j + 1, by omega, by omega, Wk.wk (by simp [lo]; omega) (by simp [Am.get, ly]) (bf _ _) (subH_refl _) (bh (k + 1))⟩
      · have ly := lastJ_x (h := hh) (k := k) (o := lastI (lastK L hh K k)) hq2 (fun hc => h1 hc.2)
        (try simp (config := { maxSteps := 10000000 }) only [go_sem, List.reduceReplicate, BitVec.reduceOfInt, BitVec.reduceToNat, BitVec.reduceToInt, BitVec.reduceEq, BitVec.reduceLT, BitVec.reduceLE, BitVec.reduceAdd, BitVec.reduceSub, BitVec.reduceMul, BitVec.reduceUDiv, BitVec.reduceUMod, BitVec.reduceAnd, BitVec.reduceOr, BitVec.reduceXOr, BitVec.reduceNot, BitVec.reduceNeg, BitVec.reduceHShiftLeft, BitVec.reduceHShiftRight, Nat.reduceAdd, Nat.reduceMul, Nat.reduceSub, Nat.reduceBEq, Nat.reduceEqDiff, Nat.reduceLeDiff, Nat.reduceLT, Int.reduceLE, Int.reduceLT, Int.reduceAdd, Int.reduceSub, Int.reduceMul, Int.reduceNeg, Int.reduceToNat, Int.reduceEq, ↓reduceIte, reduceCtorEq, xl, yl, kI, k0, jI, j0, e2, gx1, gx2, hv1, hv4, b1, b2, b3, b4, g0, g1, d1, d2, h0, h1]; repeat (simp (disch := omega) only [w64_d, ipos, ineg, dpos, dneg]; try simp (config := { maxSteps := 10000000 }) only [go_sem, List.reduceReplicate, BitVec.reduceOfInt, BitVec.reduceToNat, BitVec.reduceToInt, BitVec.reduceEq, BitVec.reduceLT, BitVec.reduceLE, BitVec.reduceAdd, BitVec.reduceSub, BitVec.reduceMul, BitVec.reduceUDiv, BitVec.reduceUMod, BitVec.reduceAnd, BitVec.reduceOr, BitVec.reduceXOr, BitVec.reduceNot, BitVec.reduceNeg, BitVec.reduceHShiftLeft, BitVec.reduceHShiftRight, Nat.reduceAdd, Nat.reduceMul, Nat.reduceSub, Nat.reduceBEq, Nat.reduceEqDiff, Nat.reduceLeDiff, Nat.reduceLT, Int.reduceLE, Int.reduceLT, Int.reduceAdd, Int.reduceSub, Int.reduceMul, Int.reduceNeg, Int.reduceToNat, Int.reduceEq, ↓reduceIte, reduceCtorEq, xl, yl, kI, k0, jI, j0, e2, gx1, gx2, hv1, hv4, b1, b2, b3, b4, g0, g1, d1, d2, h0, h1]))
        exact ⟨j + 1, by omega, by omega, Wk.wk (by simp [lo]; omega) (by simp [Am.get, ly]) (bf _ _) (subH_refl _) (bh (k + 1))⟩
    · have ly := lastJ_x (h := hh) (k := k) (o := lastI (lastK L hh K k)) hq2 (fun hc => h0 hc.1)
      (try simp (config := { maxSteps := 10000000 }) only [go_sem, List.reduceReplicate, BitVec.reduceOfInt, BitVec.reduceToNat, BitVec.reduceToInt, BitVec.reduceEq, BitVec.reduceLT, BitVec.reduceLE, BitVec.reduceAdd, BitVec.reduceSub, BitVec.reduceMul, BitVec.reduceUDiv, BitVec.reduceUMod, BitVec.reduceAnd, BitVec.reduceOr, BitVec.reduceXOr, BitVec.reduceNot, BitVec.reduceNeg, BitVec.reduceHShiftLeft, BitVec.reduceHShiftRight, Nat.reduceAdd, Nat.reduceMul, Nat.reduceSub, Nat.reduceBEq, Nat.reduceEqDiff, Nat.reduceLeDiff, Nat.reduceLT, Int.reduceLE, Int.reduceLT, Int.reduceAdd, Int.reduceSub, Int.reduceMul, Int.reduceNeg, Int.reduceToNat, Int.reduceEq, ↓reduceIte, reduceCtorEq, xl, yl, kI, k0, jI, j0, e2, gx1, gx2, hv1, hv4, b1, b2, b3, b4, g0, g1, d1, d2, h0]; repeat (simp (disch := omega) only [w64_d, ipos, ineg, dpos, dneg]; try simp (config := { maxSteps := 10000000 }) only [go_sem, List.reduceReplicate, BitVec.reduceOfInt, BitVec.reduceToNat, BitVec.reduceToInt, BitVec.reduceEq, BitVec.reduceLT, BitVec.reduceLE, BitVec.reduceAdd, BitVec.reduceSub, BitVec.reduceMul, BitVec.reduceUDiv, BitVec.reduceUMod, BitVec.reduceAnd, BitVec.reduceOr, BitVec.reduceXOr, BitVec.reduceNot, BitVec.reduceNeg, BitVec.reduceHShiftLeft, BitVec.reduceHShiftRight, Nat.reduceAdd, Nat.reduceMul, Nat.reduceSub, Nat.reduceBEq, Nat.reduceEqDiff, Nat.reduceLeDiff, Nat.reduceLT, Int.reduceLE, Int.reduceLT, Int.reduceAdd, Int.reduceSub, Int.reduceMul, Int.reduceNeg, Int.reduceToNat, Int.reduceEq, ↓reduceIte, reduceCtorEq, xl, yl, kI, k0, jI, j0, e2, gx1, gx2, hv1, hv4, b1, b2, b3, b4, g0, g1, d1, d2, h0]))
      exact ⟨j + 1, by omega, by omega, Wk.wk (by simp [lo]; omega) (by simp [Am.get, ly]) (bf _ _) (subH_refl _) (bh (k + 1))⟩
theorem sig_elogs (avs : List AV) (H : AH) (h : SigA [.sl ksE, .fl false [.n .i64], .sl [.n .i64]] avs H) : s_elogs avs H = some (.c (.b true)) := by
  obtain ⟨x, r1, rfl, h2, l, hl, hp, hn⟩ := sig_row (f := encE) (w := 65) (dc := dcE) (p := fun _ => True) (fun cs hcs => ⟨⟨cs, hcs⟩, rfl, trivial⟩) encE_l dcE_e h
  obtain ⟨s, r2, rfl, ks, h3⟩ := sig_c h2
  obtain ⟨a, rfl, _⟩ := fk_i ks
  obtain ⟨y, r3, rfl, h4, r, hr, _, hm⟩ := sig_row (f := encI) (w := 1) (dc := dcI) (p := fun _ => True) (fun cs hcs => by
    obtain ⟨a, _, rfl, ka, g⟩ := fit_cons hcs
    obtain rfl := fit_nil g
    obtain ⟨a, rfl, _⟩ := fk_i ka
    exact ⟨a, rfl, trivial⟩) encI_l dcI_e h3
  obtain rfl := sig_nil h4
  simp only [s_elogs, hl, hr]
  rw [if_pos ⟨hn, hm⟩]

end
end Go.Proofs.Ytamjmjllgmachaa
