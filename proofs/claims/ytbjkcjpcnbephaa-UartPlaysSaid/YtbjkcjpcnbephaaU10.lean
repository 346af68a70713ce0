/- Layer 17: the law UartKeeps. -/
import Derived.Test.YtbjkcjpcnbephaaU9
namespace Go.Proofs.Ytbjkcjpcnbephaa
open Go.Am
set_option linter.unusedSimpArgs false
set_option linter.unusedVariables false
noncomputable section

/-- a port behind what was there -/
structure InK (H K : AH) (t : Pt) (x y : Sc) : Prop where
  pi : PI K H.length t x y
  keep : ∀ k, k < H.length → hg K k = hg H k
  nx : ∀ i, sid x = some i → H.length < i
  ny : ∀ i, sid y = some i → H.length < i
theorem InK.new (H : AH) : InK H (H ++ [.own (poC po0)]) pt0 .nils .nils :=
  ⟨pi_new H, fun k hk => hg_app hk, fun i h => by simp [sid] at h, fun i h => by simp [sid] at h⟩
theorem InK.step {H K K' : AH} {t t' : Pt} {x y x' y' : Sc} (h : InK H K t x y) (hP : PI K' H.length t' x' y') (hk : Kp K K' H.length x y x' y') : InK H K' t' x' y' := by
  have lt := h.pi.lt
  refine ⟨hP, fun k hk1 => ?_, fun i hi => ?_, fun i hi => ?_⟩
  · rw [hk.keep k (by omega) (by omega) (fun e => by have := h.nx k e; omega) (fun e => by have := h.ny k e; omega)]
    exact h.keep k hk1
  · rcases hk.fx i hi with e | e
    · exact h.nx i e
    · omega
  · rcases hk.fy i hi with e | e
    · exact h.ny i e
    · omega
theorem InK.app {H K X : AH} {t : Pt} {x y : Sc} (h : InK H K t x y) : InK H (K ++ X) t x y :=
  ⟨pi_app h.pi, fun k hk => by rw [hg_app (by have := h.pi.lt; omega)]; exact h.keep k hk, h.nx, h.ny⟩
theorem InK.sub {H K : AH} {t : Pt} {x y : Sc} (h : InK H K t x y) : subH H K := subH_of (by have := h.pi.lt; omega) h.keep
def ptQ : Pt := { pt0 with ff := true }
def tI (L : List Int) (i : Nat) : Pt := { ptQ with A := L.take (min i 16), lo := decide (16 < i) }
def tO (L M : List Int) (j : Nat) : Pt := { tI L L.length with B := M.take j, em := decide (0 < j) }
def tR (L M : List Int) (i : Nat) : Pt := { tO L M M.length with lo := false, A := (L.take 16).drop i }
theorem keeps_1 : writeP pt0 2#64 1 = (ptQ, true) := rfl
theorem tI_0 (L : List Int) : tI L 0 = ptQ := by unfold tI; simp [ptQ, pt0]
theorem keeps_in {L : List Int} {i : Nat} {b : Int} (hb : L[i]? = some b) : inputP (tI L i) b = (tI L (i + 1), decide (i < 16)) := by
  have hi : i < L.length := by
    rcases Nat.lt_or_ge i L.length with h | h
    · exact h
    · rw [List.getElem?_eq_none h] at hb; simp at hb
  have e : inputP (tI L i) b = comeP (tI L i) b := if_pos (show an8 (tI L i).m 16 = 0 from (by decide : an8 0 16 = 0))
  rw [e]
  have r : roomP (tI L i) = 16 := rfl
  have l : (tI L i).A.length = min i 16 := by simp [tI]; omega
  unfold comeP
  rw [r, l]
  by_cases h : i < 16
  · rw [if_neg (by omega)]
    have d1 : decide (16 < i) = false := decide_eq_false (by omega)
    have d2 : decide (16 < i + 1) = false := decide_eq_false (by omega)
    have m1 : min i 16 = i := by omega
    have m2 : min (i + 1) 16 = i + 1 := by omega
    simp only [tI, d1, d2, m1, m2, List.take_add_one, hb, Option.toList_some, decide_eq_true h]
  · rw [if_pos (by omega)]
    have d2 : decide (16 < i + 1) = true := decide_eq_true (by omega)
    have m1 : min i 16 = 16 := by omega
    have m2 : min (i + 1) 16 = 16 := by omega
    simp only [tI, d2, m1, m2, decide_eq_false h]
theorem tO_0 (L M : List Int) : tO L M 0 = tI L L.length := by unfold tO tI; simp [ptQ, pt0]
theorem keeps_out {L M : List Int} {j : Nat} {b : Int} (hb : M[j]? = some b) : writeP (tO L M j) 0#64 b = (tO L M (j + 1), true) := by
  have e : writeP (tO L M j) 0#64 b = (sendP (tO L M j) b, true) := by
    unfold writeP
    rw [if_neg (by decide), if_pos ⟨rfl, (by decide : an8 0 128 = 0)⟩]
  have e2 : sendP (tO L M j) b = { tO L M j with B := (tO L M j).B ++ [b], em := true } := if_pos (show an8 (tO L M j).m 16 = 0 from (by decide : an8 0 16 = 0))
  rw [e, e2]
  simp only [tO, List.take_add_one, hb, Option.toList_some, decide_eq_true (Nat.succ_pos j)]
theorem keeps_5 (L M : List Int) : readP (tO L M M.length) 5#64 = (tR L M 0, stateT (decide (16 < L.length)) (L.take 16).length, true) := by
  have e : readP (tO L M M.length) 5#64 = ((stateP (tO L M M.length)).1, (stateP (tO L M M.length)).2, true) := rfl
  rw [e]
  have m : L.take (min L.length 16) = L.take 16 := by
    rcases Nat.le_total L.length 16 with h | h
    · rw [Nat.min_eq_left h, List.take_of_length_le (Nat.le_refl _), List.take_of_length_le h]
    · rw [Nat.min_eq_right h]
  simp only [stateP, tO, tI, tR, m, List.drop_zero]
theorem keeps_bit (q : Bool) (n : Nat) : (an8 (stateT q n) 2 = 2) = (q = true) := by
  unfold stateT
  by_cases h : 0 < n
  · rw [if_pos h]; cases q <;> decide
  · rw [if_neg h]; cases q <;> decide
theorem keeps_r {L M : List Int} {i : Nat} {b : Int} (hb : L[i]? = some b) (hi : i < 16) : readP (tR L M i) 0#64 = (tR L M (i + 1), b, true) := by
  have e : readP (tR L M i) 0#64 = ((takeP (tR L M i)).1, (takeP (tR L M i)).2, true) := by
    unfold readP
    rw [if_neg (by decide), if_pos rfl, if_pos (show an8 (tR L M i).l 128 = 0 from (by decide : an8 0 128 = 0))]
  have hA : (tR L M i).A = b :: (L.take 16).drop (i + 1) := by
    have : (L.take 16)[i]? = some b := by rw [List.getElem?_take_of_lt hi]; exact hb
    obtain ⟨h1, h2⟩ := List.getElem?_eq_some_iff.1 this
    show (L.take 16).drop i = _
    rw [List.drop_eq_getElem_cons h1, h2]
  rw [e]
  unfold takeP
  rw [hA]
  rfl
theorem slD_keep {α : Type} {w : Nat} {dc : List Sc → Option α} {H K : AH} {y : Sc} {M : List α} (h : slD w dc H y = some M) (hk : ∀ k, k < H.length → hg K k = hg H k) (hb : y.bel H.length = true) : slD w dc K y = some M := by
  unfold slD at h ⊢
  split at h
  · exact h
  · rename_i id v n
    have lid : id < H.length := by simpa [Sc.bel] using hb
    simp only [hk id lid]
    exact h
  · simp at h
theorem drop_16 (L : List Int) : (L.take 16).drop (min L.length 16) = [] := by
  apply List.drop_of_length_le; simp; omega
def s_ukeeps (args : List AV) (H : AH) : Option AV :=
  match args with
  | [.c x, .c y] =>
    match slD 1 dc8 H x, slD 1 dc8 H y with
    | some L, some M => if L.length ≤ 9223372036854775807 ∧ M.length ≤ 9223372036854775807 then some (.c (.b true)) else none
    | _, _ => none
  | _ => none
set_option maxHeartbeats 4000000 in
set_option maxRecDepth 100000 in
set_option maxHeartbeats 2000000 in
theorem ok_ukeeps : FpOk Try.prog 3 (fun args H => (s_ukeeps args H).map fun v => (v, H)) := by
  refine fq_ok (s := s_ukeeps) (tab := [(7, .fp s_unew), (8, .fp s_uwrite), (9, .fp s_uinput), (10, .fp s_uread), (11, .fp s_uwaiting), (13, .fp s_uout), (12, .fq s_ubytes), (6, .pu s_live17)]) hmix (TabOk.cons (e := .fp s_unew) ok_unew (TabOk.cons (e := .fp s_uwrite) ok_uwrite (TabOk.cons (e := .fp s_uinput) ok_uinput (TabOk.cons (e := .fp s_uread) ok_uread (TabOk.cons (e := .fp s_uwaiting) ok_uwaiting (TabOk.cons (e := .fp s_uout) ok_uout (TabOk.cons (e := .fq s_ubytes) ok_ubytes (TabOk.cons (e := .pu s_live17) ok_live17 TabOk.nil)))))))) Try.func3 rfl Try.results3 Try.ntmps3 (by kernel_rfl) (by kernel_rfl) ?_
  intro args H v h hargs hH
  unfold s_ukeeps at h
  split at h
  · rename_i x y
    split at h
    · rename_i L M hL hM
      split at h
      · rename_i hc
        obtain ⟨c1, c2⟩ := hc
        simp only [Option.some.injEq] at h
        subst h
        refine ⟨by simp only [List.length_cons, List.length_nil]; decide, rfl, ?_⟩
        have bx : x.bel H.length = true := by simp only [List.all_cons, AV.bel, Bool.and_eq_true] at hargs; exact hargs.1
        have byy : y.bel H.length = true := by simp only [List.all_cons, AV.bel, Bool.and_eq_true] at hargs; exact hargs.2.1
        have xl : ∀ e, lenB (.sl e) (.c x) = some (.c (.i L.length)) := by
          intro e
          rcases slD_inv dc8_d hL with ⟨rfl, rfl⟩ | ⟨id2, v2, rfl, hv2, hcs2⟩ <;> rfl
        have yl : ∀ e, lenB (.sl e) (.c y) = some (.c (.i M.length)) := by
          intro e
          rcases slD_inv dc8_d hM with ⟨rfl, rfl⟩ | ⟨id2, v2, rfl, hv2, hcs2⟩ <;> rfl
        by_cases h60 : (60 : Int) < (L.length : Int)
        · (try simp (config := { maxSteps := 10000000 }) only [go_sem, List.reduceReplicate, BitVec.reduceOfInt, BitVec.reduceToNat, BitVec.reduceToInt, BitVec.reduceEq, BitVec.reduceLT, BitVec.reduceLE, BitVec.reduceAdd, BitVec.reduceSub, BitVec.reduceMul, BitVec.reduceUDiv, BitVec.reduceUMod, BitVec.reduceAnd, BitVec.reduceOr, BitVec.reduceXOr, BitVec.reduceNot, BitVec.reduceNeg, BitVec.reduceHShiftLeft, BitVec.reduceHShiftRight, Nat.reduceAdd, Nat.reduceMul, Nat.reduceSub, Nat.reduceBEq, Nat.reduceEqDiff, Nat.reduceLeDiff, Nat.reduceLT, Int.reduceLE, Int.reduceLT, Int.reduceAdd, Int.reduceSub, Int.reduceMul, Int.reduceNeg, Int.reduceToNat, Int.reduceEq, ↓reduceIte, reduceCtorEq, s_live17_eq, xl, yl, h60]; repeat (simp (disch := omega) only [w64_d, ipos, ineg, dpos, dneg]; try simp (config := { maxSteps := 10000000 }) only [go_sem, List.reduceReplicate, BitVec.reduceOfInt, BitVec.reduceToNat, BitVec.reduceToInt, BitVec.reduceEq, BitVec.reduceLT, BitVec.reduceLE, BitVec.reduceAdd, BitVec.reduceSub, BitVec.reduceMul, BitVec.reduceUDiv, BitVec.reduceUMod, BitVec.reduceAnd, BitVec.reduceOr, BitVec.reduceXOr, BitVec.reduceNot, BitVec.reduceNeg, BitVec.reduceHShiftLeft, BitVec.reduceHShiftRight, Nat.reduceAdd, Nat.reduceMul, Nat.reduceSub, Nat.reduceBEq, Nat.reduceEqDiff, Nat.reduceLeDiff, Nat.reduceLT, Int.reduceLE, Int.reduceLT, Int.reduceAdd, Int.reduceSub, Int.reduceMul, Int.reduceNeg, Int.reduceToNat, Int.reduceEq, ↓reduceIte, reduceCtorEq, s_live17_eq, xl, yl, h60]))
          first | exact subH_refl _ | exact ⟨rfl, subH_refl _⟩
        by_cases h61 : (60 : Int) < (M.length : Int)
        · (try simp (config := { maxSteps := 10000000 }) only [go_sem, List.reduceReplicate, BitVec.reduceOfInt, BitVec.reduceToNat, BitVec.reduceToInt, BitVec.reduceEq, BitVec.reduceLT, BitVec.reduceLE, BitVec.reduceAdd, BitVec.reduceSub, BitVec.reduceMul, BitVec.reduceUDiv, BitVec.reduceUMod, BitVec.reduceAnd, BitVec.reduceOr, BitVec.reduceXOr, BitVec.reduceNot, BitVec.reduceNeg, BitVec.reduceHShiftLeft, BitVec.reduceHShiftRight, Nat.reduceAdd, Nat.reduceMul, Nat.reduceSub, Nat.reduceBEq, Nat.reduceEqDiff, Nat.reduceLeDiff, Nat.reduceLT, Int.reduceLE, Int.reduceLT, Int.reduceAdd, Int.reduceSub, Int.reduceMul, Int.reduceNeg, Int.reduceToNat, Int.reduceEq, ↓reduceIte, reduceCtorEq, s_live17_eq, xl, yl, h60, h61]; repeat (simp (disch := omega) only [w64_d, ipos, ineg, dpos, dneg]; try simp (config := { maxSteps := 10000000 }) only [go_sem, List.reduceReplicate, BitVec.reduceOfInt, BitVec.reduceToNat, BitVec.reduceToInt, BitVec.reduceEq, BitVec.reduceLT, BitVec.reduceLE, BitVec.reduceAdd, BitVec.reduceSub, BitVec.reduceMul, BitVec.reduceUDiv, BitVec.reduceUMod, BitVec.reduceAnd, BitVec.reduceOr, BitVec.reduceXOr, BitVec.reduceNot, BitVec.reduceNeg, BitVec.reduceHShiftLeft, BitVec.reduceHShiftRight, Nat.reduceAdd, Nat.reduceMul, Nat.reduceSub, Nat.reduceBEq, Nat.reduceEqDiff, Nat.reduceLeDiff, Nat.reduceLT, Int.reduceLE, Int.reduceLT, Int.reduceAdd, Int.reduceSub, Int.reduceMul, Int.reduceNeg, Int.reduceToNat, Int.reduceEq, ↓reduceIte, reduceCtorEq, s_live17_eq, xl, yl, h60, h61]))
          first | exact subH_refl _ | exact ⟨rfl, subH_refl _⟩
        obtain ⟨K1, x1, y1, w1, P1, k1⟩ := write_ok (pi_new H) 2#64 1 (by decide) (by decide)
        rw [keeps_1] at w1 P1
        have I1 := (InK.new H).step P1 k1
        simp only at w1
        (try simp (config := { maxSteps := 10000000 }) only [go_sem, List.reduceReplicate, BitVec.reduceOfInt, BitVec.reduceToNat, BitVec.reduceToInt, BitVec.reduceEq, BitVec.reduceLT, BitVec.reduceLE, BitVec.reduceAdd, BitVec.reduceSub, BitVec.reduceMul, BitVec.reduceUDiv, BitVec.reduceUMod, BitVec.reduceAnd, BitVec.reduceOr, BitVec.reduceXOr, BitVec.reduceNot, BitVec.reduceNeg, BitVec.reduceHShiftLeft, BitVec.reduceHShiftRight, Nat.reduceAdd, Nat.reduceMul, Nat.reduceSub, Nat.reduceBEq, Nat.reduceEqDiff, Nat.reduceLeDiff, Nat.reduceLT, Int.reduceLE, Int.reduceLT, Int.reduceAdd, Int.reduceSub, Int.reduceMul, Int.reduceNeg, Int.reduceToNat, Int.reduceEq, ↓reduceIte, reduceCtorEq, xl, yl, h60, h61, un7, w1]; repeat (simp (disch := omega) only [w64_d, ipos, ineg, dpos, dneg]; try simp (config := { maxSteps := 10000000 }) only [go_sem, List.reduceReplicate, BitVec.reduceOfInt, BitVec.reduceToNat, BitVec.reduceToInt, BitVec.reduceEq, BitVec.reduceLT, BitVec.reduceLE, BitVec.reduceAdd, BitVec.reduceSub, BitVec.reduceMul, BitVec.reduceUDiv, BitVec.reduceUMod, BitVec.reduceAnd, BitVec.reduceOr, BitVec.reduceXOr, BitVec.reduceNot, BitVec.reduceNeg, BitVec.reduceHShiftLeft, BitVec.reduceHShiftRight, Nat.reduceAdd, Nat.reduceMul, Nat.reduceSub, Nat.reduceBEq, Nat.reduceEqDiff, Nat.reduceLeDiff, Nat.reduceLT, Int.reduceLE, Int.reduceLT, Int.reduceAdd, Int.reduceSub, Int.reduceMul, Int.reduceNeg, Int.reduceToNat, Int.reduceEq, ↓reduceIte, reduceCtorEq, xl, yl, h60, h61, un7, w1]))
        rw [arun_loop]
        refine ⟨{s : Nat × AH × Sc × Sc // s.1 ≤ L.length ∧ InK H s.2.1 (tI L s.1) s.2.2.1 s.2.2.2}, fun s => ([(0, .c x), (1, .c y), (4, .c (.b false)), (5, .c (.p H.length 0 0)), (6, .c (.i s.1.1))], s.1.2.1), fun s => L.length - s.1.1,
          ⟨(0, K1, x1, y1), by simp, by rw [tI_0]; exact I1⟩, Wk.fr (by simp [Am.get]), ?_⟩
        rintro ⟨⟨k, K, xx, yy⟩, hk, I⟩
        simp only at hk I ⊢
        by_cases hlt : k < L.length
        · rcases slD_inv dc8_d hL with ⟨rfl, rfl⟩ | ⟨id, v, rfl, hv, hcs⟩
          · simp at hlt
          have lid : id < H.length := by simpa [Sc.bel] using bx
          obtain ⟨a, ha⟩ : ∃ a, L[k]? = some a := ⟨_, List.getElem?_eq_getElem hlt⟩
          obtain ⟨K', x', q1, P', k'⟩ := input_ok I.pi a (by simp [tI]; omega)
          rw [keeps_in ha] at q1 P'
          have I' := I.step P' k'
          have gk := I.keep id lid
          have g1 := fm_le enc8_l (L := L) (k := k) hlt
          have g3 := fm1 (f := enc8) (g := Sc.k .u8) (fun _ => rfl) ha
          rw [← hcs] at g1 g3
          rw [Nat.mul_one] at g1
          have hlt2 : (k : Int) < (L.length : Int) := by omega
          have k0 : (0 : Int) ≤ (k : Int) := by omega
          have e1 : w64 ((k : Int) + 1) = ((k + 1 : Nat) : Int) := by rw [w64_of (by omega)]; omega
          have e2 : ((k : Int) < 16) = (k < 16) := by apply propext; omega
          simp only at q1
          (try simp (config := { maxSteps := 10000000 }) only [go_sem, List.reduceReplicate, BitVec.reduceOfInt, BitVec.reduceToNat, BitVec.reduceToInt, BitVec.reduceEq, BitVec.reduceLT, BitVec.reduceLE, BitVec.reduceAdd, BitVec.reduceSub, BitVec.reduceMul, BitVec.reduceUDiv, BitVec.reduceUMod, BitVec.reduceAnd, BitVec.reduceOr, BitVec.reduceXOr, BitVec.reduceNot, BitVec.reduceNeg, BitVec.reduceHShiftLeft, BitVec.reduceHShiftRight, Nat.reduceAdd, Nat.reduceMul, Nat.reduceSub, Nat.reduceBEq, Nat.reduceEqDiff, Nat.reduceLeDiff, Nat.reduceLT, Int.reduceLE, Int.reduceLT, Int.reduceAdd, Int.reduceSub, Int.reduceMul, Int.reduceNeg, Int.reduceToNat, Int.reduceEq, ↓reduceIte, reduceCtorEq, xl, yl, g1, g3, gk, hv.symm, hlt2, k0, e1, e2, q1]; repeat (simp (disch := omega) only [w64_d, ipos, ineg, dpos, dneg]; try simp (config := { maxSteps := 10000000 }) only [go_sem, List.reduceReplicate, BitVec.reduceOfInt, BitVec.reduceToNat, BitVec.reduceToInt, BitVec.reduceEq, BitVec.reduceLT, BitVec.reduceLE, BitVec.reduceAdd, BitVec.reduceSub, BitVec.reduceMul, BitVec.reduceUDiv, BitVec.reduceUMod, BitVec.reduceAnd, BitVec.reduceOr, BitVec.reduceXOr, BitVec.reduceNot, BitVec.reduceNeg, BitVec.reduceHShiftLeft, BitVec.reduceHShiftRight, Nat.reduceAdd, Nat.reduceMul, Nat.reduceSub, Nat.reduceBEq, Nat.reduceEqDiff, Nat.reduceLeDiff, Nat.reduceLT, Int.reduceLE, Int.reduceLT, Int.reduceAdd, Int.reduceSub, Int.reduceMul, Int.reduceNeg, Int.reduceToNat, Int.reduceEq, ↓reduceIte, reduceCtorEq, xl, yl, g1, g3, gk, hv.symm, hlt2, k0, e1, e2, q1]))
          by_cases h16 : k < 16
          · (try simp (config := { maxSteps := 10000000 }) only [go_sem, List.reduceReplicate, BitVec.reduceOfInt, BitVec.reduceToNat, BitVec.reduceToInt, BitVec.reduceEq, BitVec.reduceLT, BitVec.reduceLE, BitVec.reduceAdd, BitVec.reduceSub, BitVec.reduceMul, BitVec.reduceUDiv, BitVec.reduceUMod, BitVec.reduceAnd, BitVec.reduceOr, BitVec.reduceXOr, BitVec.reduceNot, BitVec.reduceNeg, BitVec.reduceHShiftLeft, BitVec.reduceHShiftRight, Nat.reduceAdd, Nat.reduceMul, Nat.reduceSub, Nat.reduceBEq, Nat.reduceEqDiff, Nat.reduceLeDiff, Nat.reduceLT, Int.reduceLE, Int.reduceLT, Int.reduceAdd, Int.reduceSub, Int.reduceMul, Int.reduceNeg, Int.reduceToNat, Int.reduceEq, ↓reduceIte, reduceCtorEq, h16, e1]; repeat (simp (disch := omega) only [w64_d, ipos, ineg, dpos, dneg]; try simp (config := { maxSteps := 10000000 }) only [go_sem, List.reduceReplicate, BitVec.reduceOfInt, BitVec.reduceToNat, BitVec.reduceToInt, BitVec.reduceEq, BitVec.reduceLT, BitVec.reduceLE, BitVec.reduceAdd, BitVec.reduceSub, BitVec.reduceMul, BitVec.reduceUDiv, BitVec.reduceUMod, BitVec.reduceAnd, BitVec.reduceOr, BitVec.reduceXOr, BitVec.reduceNot, BitVec.reduceNeg, BitVec.reduceHShiftLeft, BitVec.reduceHShiftRight, Nat.reduceAdd, Nat.reduceMul, Nat.reduceSub, Nat.reduceBEq, Nat.reduceEqDiff, Nat.reduceLeDiff, Nat.reduceLT, Int.reduceLE, Int.reduceLT, Int.reduceAdd, Int.reduceSub, Int.reduceMul, Int.reduceNeg, Int.reduceToNat, Int.reduceEq, ↓reduceIte, reduceCtorEq, h16, e1]))
            exact ⟨⟨(k + 1, K', x', yy), by simp only; omega, I'⟩, by simp only; omega, Wk.fr (by simp [Am.get])⟩
          · (try simp (config := { maxSteps := 10000000 }) only [go_sem, List.reduceReplicate, BitVec.reduceOfInt, BitVec.reduceToNat, BitVec.reduceToInt, BitVec.reduceEq, BitVec.reduceLT, BitVec.reduceLE, BitVec.reduceAdd, BitVec.reduceSub, BitVec.reduceMul, BitVec.reduceUDiv, BitVec.reduceUMod, BitVec.reduceAnd, BitVec.reduceOr, BitVec.reduceXOr, BitVec.reduceNot, BitVec.reduceNeg, BitVec.reduceHShiftLeft, BitVec.reduceHShiftRight, Nat.reduceAdd, Nat.reduceMul, Nat.reduceSub, Nat.reduceBEq, Nat.reduceEqDiff, Nat.reduceLeDiff, Nat.reduceLT, Int.reduceLE, Int.reduceLT, Int.reduceAdd, Int.reduceSub, Int.reduceMul, Int.reduceNeg, Int.reduceToNat, Int.reduceEq, ↓reduceIte, reduceCtorEq, h16, e1]; repeat (simp (disch := omega) only [w64_d, ipos, ineg, dpos, dneg]; try simp (config := { maxSteps := 10000000 }) only [go_sem, List.reduceReplicate, BitVec.reduceOfInt, BitVec.reduceToNat, BitVec.reduceToInt, BitVec.reduceEq, BitVec.reduceLT, BitVec.reduceLE, BitVec.reduceAdd, BitVec.reduceSub, BitVec.reduceMul, BitVec.reduceUDiv, BitVec.reduceUMod, BitVec.reduceAnd, BitVec.reduceOr, BitVec.reduceXOr, BitVec.reduceNot, BitVec.reduceNeg, BitVec.reduceHShiftLeft, BitVec.reduceHShiftRight, Nat.reduceAdd, Nat.reduceMul, Nat.reduceSub, Nat.reduceBEq, Nat.reduceEqDiff, Nat.reduceLeDiff, Nat.reduceLT, Int.reduceLE, Int.reduceLT, Int.reduceAdd, Int.reduceSub, Int.reduceMul, Int.reduceNeg, Int.reduceToNat, Int.reduceEq, ↓reduceIte, reduceCtorEq, h16, e1]))
            exact ⟨⟨(k + 1, K', x', yy), by simp only; omega, I'⟩, by simp only; omega, Wk.fr (by simp [Am.get])⟩
        · obtain rfl : k = L.length := by omega
          rw [← tO_0 L M] at I
          (try simp (config := { maxSteps := 10000000 }) only [go_sem, List.reduceReplicate, BitVec.reduceOfInt, BitVec.reduceToNat, BitVec.reduceToInt, BitVec.reduceEq, BitVec.reduceLT, BitVec.reduceLE, BitVec.reduceAdd, BitVec.reduceSub, BitVec.reduceMul, BitVec.reduceUDiv, BitVec.reduceUMod, BitVec.reduceAnd, BitVec.reduceOr, BitVec.reduceXOr, BitVec.reduceNot, BitVec.reduceNeg, BitVec.reduceHShiftLeft, BitVec.reduceHShiftRight, Nat.reduceAdd, Nat.reduceMul, Nat.reduceSub, Nat.reduceBEq, Nat.reduceEqDiff, Nat.reduceLeDiff, Nat.reduceLT, Int.reduceLE, Int.reduceLT, Int.reduceAdd, Int.reduceSub, Int.reduceMul, Int.reduceNeg, Int.reduceToNat, Int.reduceEq, ↓reduceIte, reduceCtorEq, xl, yl]; repeat (simp (disch := omega) only [w64_d, ipos, ineg, dpos, dneg]; try simp (config := { maxSteps := 10000000 }) only [go_sem, List.reduceReplicate, BitVec.reduceOfInt, BitVec.reduceToNat, BitVec.reduceToInt, BitVec.reduceEq, BitVec.reduceLT, BitVec.reduceLE, BitVec.reduceAdd, BitVec.reduceSub, BitVec.reduceMul, BitVec.reduceUDiv, BitVec.reduceUMod, BitVec.reduceAnd, BitVec.reduceOr, BitVec.reduceXOr, BitVec.reduceNot, BitVec.reduceNeg, BitVec.reduceHShiftLeft, BitVec.reduceHShiftRight, Nat.reduceAdd, Nat.reduceMul, Nat.reduceSub, Nat.reduceBEq, Nat.reduceEqDiff, Nat.reduceLeDiff, Nat.reduceLT, Int.reduceLE, Int.reduceLT, Int.reduceAdd, Int.reduceSub, Int.reduceMul, Int.reduceNeg, Int.reduceToNat, Int.reduceEq, ↓reduceIte, reduceCtorEq, xl, yl]))
          rw [arun_loop]
          refine ⟨{s : Nat × AH × Sc × Sc // s.1 ≤ M.length ∧ InK H s.2.1 (tO L M s.1) s.2.2.1 s.2.2.2}, fun s => ([(0, .c x), (1, .c y), (4, .c (.b false)), (5, .c (.p H.length 0 0)), (7, .c (.i s.1.1))], s.1.2.1), fun s => M.length - s.1.1,
            ⟨(0, K, xx, yy), by simp, I⟩, Wk.fr (by simp [Am.get]), ?_⟩
          clear hk I K xx yy
          rintro ⟨⟨k, K, xx, yy⟩, hk, I⟩
          simp only at hk I ⊢
          by_cases hlt : k < M.length
          · rcases slD_inv dc8_d hM with ⟨rfl, rfl⟩ | ⟨id, v, rfl, hv, hcs⟩
            · simp at hlt
            have lid : id < H.length := by simpa [Sc.bel] using byy
            obtain ⟨a, ha⟩ : ∃ a, M[k]? = some a := ⟨_, List.getElem?_eq_getElem hlt⟩
            obtain ⟨K', x', y', q1, P', k'⟩ := write_ok I.pi 0#64 a (by simp [tO, tI]; omega) (by simp [tO]; omega)
            rw [keeps_out ha] at q1 P'
            have I' := I.step P' k'
            have gk := I.keep id lid
            have g1 := fm_le enc8_l (L := M) (k := k) hlt
            have g3 := fm1 (f := enc8) (g := Sc.k .u8) (fun _ => rfl) ha
            rw [← hcs] at g1 g3
            rw [Nat.mul_one] at g1
            have hlt2 : (k : Int) < (M.length : Int) := by omega
            have k0 : (0 : Int) ≤ (k : Int) := by omega
            have e1 : w64 ((k : Int) + 1) = ((k + 1 : Nat) : Int) := by rw [w64_of (by omega)]; omega
            simp only at q1
            (try simp (config := { maxSteps := 10000000 }) only [go_sem, List.reduceReplicate, BitVec.reduceOfInt, BitVec.reduceToNat, BitVec.reduceToInt, BitVec.reduceEq, BitVec.reduceLT, BitVec.reduceLE, BitVec.reduceAdd, BitVec.reduceSub, BitVec.reduceMul, BitVec.reduceUDiv, BitVec.reduceUMod, BitVec.reduceAnd, BitVec.reduceOr, BitVec.reduceXOr, BitVec.reduceNot, BitVec.reduceNeg, BitVec.reduceHShiftLeft, BitVec.reduceHShiftRight, Nat.reduceAdd, Nat.reduceMul, Nat.reduceSub, Nat.reduceBEq, Nat.reduceEqDiff, Nat.reduceLeDiff, Nat.reduceLT, Int.reduceLE, Int.reduceLT, Int.reduceAdd, Int.reduceSub, Int.reduceMul, Int.reduceNeg, Int.reduceToNat, Int.reduceEq, ↓reduceIte, reduceCtorEq, xl, yl, g1, g3, gk, hv.symm, hlt2, k0, e1, q1]; repeat (simp (disch := omega) only [w64_d, ipos, ineg, dpos, dneg]; try simp (config := { maxSteps := 10000000 }) only [go_sem, List.reduceReplicate, BitVec.reduceOfInt, BitVec.reduceToNat, BitVec.reduceToInt, BitVec.reduceEq, BitVec.reduceLT, BitVec.reduceLE, BitVec.reduceAdd, BitVec.reduceSub, BitVec.reduceMul, BitVec.reduceUDiv, BitVec.reduceUMod, BitVec.reduceAnd, BitVec.reduceOr, BitVec.reduceXOr, BitVec.reduceNot, BitVec.reduceNeg, BitVec.reduceHShiftLeft, BitVec.reduceHShiftRight, Nat.reduceAdd, Nat.reduceMul, Nat.reduceSub, Nat.reduceBEq, Nat.reduceEqDiff, Nat.reduceLeDiff, Nat.reduceLT, Int.reduceLE, Int.reduceLT, Int.reduceAdd, Int.reduceSub, Int.reduceMul, Int.reduceNeg, Int.reduceToNat, Int.reduceEq, ↓reduceIte, reduceCtorEq, xl, yl, g1, g3, gk, hv.symm, hlt2, k0, e1, q1]))
            exact ⟨⟨(k + 1, K', x', y'), by simp only; omega, I'⟩, by simp only; omega, Wk.fr (by simp [Am.get])⟩
          · obtain rfl : k = M.length := by omega
            obtain ⟨K', x', q1, P', k'⟩ := read_ok I.pi 5#64 (by simp [tO, tI]; omega)
            rw [keeps_5] at q1 P'
            have I' := I.step P' k'
            simp only at q1 I'
            have kb : decide (an8 (stateT (decide (16 < L.length)) (L.take 16).length) 2 = 2) = decide (16 < L.length) := decide_eq_decide.2 (by rw [keeps_bit]; simp)
            have e16 : decide ((16 : Int) < (L.length : Int)) = decide (16 < L.length) := by apply decide_eq_decide.2; omega
            have kc : (!(decide (an8 (stateT (decide (16 < L.length)) (L.take 16).length) 2 = 2) == decide ((16 : Int) < (L.length : Int)))) = false := by rw [kb, e16]; simp
            (try simp (config := { maxSteps := 10000000 }) only [go_sem, List.reduceReplicate, BitVec.reduceOfInt, BitVec.reduceToNat, BitVec.reduceToInt, BitVec.reduceEq, BitVec.reduceLT, BitVec.reduceLE, BitVec.reduceAdd, BitVec.reduceSub, BitVec.reduceMul, BitVec.reduceUDiv, BitVec.reduceUMod, BitVec.reduceAnd, BitVec.reduceOr, BitVec.reduceXOr, BitVec.reduceNot, BitVec.reduceNeg, BitVec.reduceHShiftLeft, BitVec.reduceHShiftRight, Nat.reduceAdd, Nat.reduceMul, Nat.reduceSub, Nat.reduceBEq, Nat.reduceEqDiff, Nat.reduceLeDiff, Nat.reduceLT, Int.reduceLE, Int.reduceLT, Int.reduceAdd, Int.reduceSub, Int.reduceMul, Int.reduceNeg, Int.reduceToNat, Int.reduceEq, ↓reduceIte, reduceCtorEq, xl, yl, q1, kc]; repeat (simp (disch := omega) only [w64_d, ipos, ineg, dpos, dneg]; try simp (config := { maxSteps := 10000000 }) only [go_sem, List.reduceReplicate, BitVec.reduceOfInt, BitVec.reduceToNat, BitVec.reduceToInt, BitVec.reduceEq, BitVec.reduceLT, BitVec.reduceLE, BitVec.reduceAdd, BitVec.reduceSub, BitVec.reduceMul, BitVec.reduceUDiv, BitVec.reduceUMod, BitVec.reduceAnd, BitVec.reduceOr, BitVec.reduceXOr, BitVec.reduceNot, BitVec.reduceNeg, BitVec.reduceHShiftLeft, BitVec.reduceHShiftRight, Nat.reduceAdd, Nat.reduceMul, Nat.reduceSub, Nat.reduceBEq, Nat.reduceEqDiff, Nat.reduceLeDiff, Nat.reduceLT, Int.reduceLE, Int.reduceLT, Int.reduceAdd, Int.reduceSub, Int.reduceMul, Int.reduceNeg, Int.reduceToNat, Int.reduceEq, ↓reduceIte, reduceCtorEq, xl, yl, q1, kc]))
            rw [arun_loop]
            refine ⟨{s : Nat × AH × Sc × Sc // s.1 ≤ min L.length 16 ∧ InK H s.2.1 (tR L M s.1) s.2.2.1 s.2.2.2}, fun s => ([(0, .c x), (1, .c y), (4, .c (.b false)), (5, .c (.p H.length 0 0)), (10, .c (.i s.1.1))], s.1.2.1), fun s => min L.length 16 - s.1.1,
              ⟨(0, K', x', yy), by simp, I'⟩, Wk.fr (by simp [Am.get]), ?_⟩
            clear hk I' K' k' P' q1 x' yy k1 I1 w1 P1 hlt I
            rintro ⟨⟨k, K, xx, yy⟩, hk, I⟩
            simp only at hk I ⊢
            by_cases hlt : k < min L.length 16
            · rcases slD_inv dc8_d hL with ⟨rfl, rfl⟩ | ⟨id, v, rfl, hv, hcs⟩
              · simp at hlt
              have lid : id < H.length := by simpa [Sc.bel] using bx
              obtain ⟨a, ha⟩ : ∃ a, L[k]? = some a := ⟨_, List.getElem?_eq_getElem (by omega)⟩
              obtain ⟨K', x', q1, P', k'⟩ := read_ok I.pi 0#64 (by simp [tR]; omega)
              rw [keeps_r ha (by omega)] at q1 P'
              have I' := I.step P' k'
              have gk := k'.keep id (by have := I.pi.lt; omega) (by omega) (fun e => by have := I.nx id e; omega) (fun e => by have := I.ny id e; omega)
              rw [I.keep id lid] at gk
              have g1 := fm_le enc8_l (L := L) (k := k) (by omega)
              have g3 := fm1 (f := enc8) (g := Sc.k .u8) (fun _ => rfl) ha
              rw [← hcs] at g1 g3
              rw [Nat.mul_one] at g1
              have hlt2 : (k : Int) < (L.length : Int) := by omega
              have hlt3 : (k : Int) < 16 := by omega
              have k0 : (0 : Int) ≤ (k : Int) := by omega
              have e1 : w64 ((k : Int) + 1) = ((k + 1 : Nat) : Int) := by rw [w64_of (by omega)]; omega
              simp only at q1
              (try simp (config := { maxSteps := 10000000 }) only [go_sem, List.reduceReplicate, BitVec.reduceOfInt, BitVec.reduceToNat, BitVec.reduceToInt, BitVec.reduceEq, BitVec.reduceLT, BitVec.reduceLE, BitVec.reduceAdd, BitVec.reduceSub, BitVec.reduceMul, BitVec.reduceUDiv, BitVec.reduceUMod, BitVec.reduceAnd, BitVec.reduceOr, BitVec.reduceXOr, BitVec.reduceNot, BitVec.reduceNeg, BitVec.reduceHShiftLeft, BitVec.reduceHShiftRight, Nat.reduceAdd, Nat.reduceMul, Nat.reduceSub, Nat.reduceBEq, Nat.reduceEqDiff, Nat.reduceLeDiff, Nat.reduceLT, Int.reduceLE, Int.reduceLT, Int.reduceAdd, Int.reduceSub, Int.reduceMul, Int.reduceNeg, Int.reduceToNat, Int.reduceEq, ↓reduceIte, reduceCtorEq, xl, yl, g1, g3, gk, hv.symm, hlt2, hlt3, k0, e1, q1]; repeat (simp (disch := omega) only [w64_d, ipos, ineg, dpos, dneg]; try simp (config := { maxSteps := 10000000 }) only [go_sem, List.reduceReplicate, BitVec.reduceOfInt, BitVec.reduceToNat, BitVec.reduceToInt, BitVec.reduceEq, BitVec.reduceLT, BitVec.reduceLE, BitVec.reduceAdd, BitVec.reduceSub, BitVec.reduceMul, BitVec.reduceUDiv, BitVec.reduceUMod, BitVec.reduceAnd, BitVec.reduceOr, BitVec.reduceXOr, BitVec.reduceNot, BitVec.reduceNeg, BitVec.reduceHShiftLeft, BitVec.reduceHShiftRight, Nat.reduceAdd, Nat.reduceMul, Nat.reduceSub, Nat.reduceBEq, Nat.reduceEqDiff, Nat.reduceLeDiff, Nat.reduceLT, Int.reduceLE, Int.reduceLT, Int.reduceAdd, Int.reduceSub, Int.reduceMul, Int.reduceNeg, Int.reduceToNat, Int.reduceEq, ↓reduceIte, reduceCtorEq, xl, yl, g1, g3, gk, hv.symm, hlt2, hlt3, k0, e1, q1]))
              exact ⟨⟨(k + 1, K', x', yy), by simp only; omega, I'⟩, by simp only; omega, Wk.fr (by simp [Am.get])⟩
            · obtain rfl : k = min L.length 16 := by omega
              have hA : (tR L M (min L.length 16)).A = [] := drop_16 L
              have hB : (tR L M (min L.length 16)).B = M := by simp [tR, tO]
              have wt := waiting_ok I.pi (by rw [hA]; simp)
              have I2 := I.app (X := [.vec 1 ((tR L M (min L.length 16)).A.flatMap enc8)])
              have ot := out_ok I2.pi (by rw [hB]; omega)
              have I3 := I2.app (X := [.vec 1 ((tR L M (min L.length 16)).B.flatMap enc8)])
              rw [hA] at wt ot I3
              rw [hB] at ot I3
              simp only [List.length_nil, List.flatMap_nil] at wt ot I3
              rw [List.append_assoc] at I3
              simp only [List.cons_append, List.nil_append] at I3
              have b1 : slD 1 dc8 (K ++ [.vec 1 [], .vec 1 (M.flatMap enc8)]) (.sl (K.length + 1) 0 M.length M.length) = some M := by
                have gv : hg (K ++ [.vec 1 [], .vec 1 (M.flatMap enc8)]) (K.length + 1) = .vec 1 (M.flatMap enc8) := by simp [hg, List.getD_eq_getElem?_getD]
                exact slD_of enc8_l dc8_e (by rw [gv]; simp only [AObj.row, e8_len]) rfl (by rw [gv]; rfl)
              have bt := s_ubytes_eq b1 (slD_keep hM I3.keep byy) (by omega) (by omega)
              simp only [decide_true] at bt
              have hn : ¬ ((min L.length 16 : Nat) : Int) < 16 ∨ ¬ ((min L.length 16 : Nat) : Int) < (L.length : Int) := by omega
              have fin := I3.sub
              by_cases hz : ((min L.length 16 : Nat) : Int) < (L.length : Int)
              · have hz2 : ¬ ((min L.length 16 : Nat) : Int) < 16 := by omega
                (try simp (config := { maxSteps := 10000000 }) only [go_sem, List.reduceReplicate, BitVec.reduceOfInt, BitVec.reduceToNat, BitVec.reduceToInt, BitVec.reduceEq, BitVec.reduceLT, BitVec.reduceLE, BitVec.reduceAdd, BitVec.reduceSub, BitVec.reduceMul, BitVec.reduceUDiv, BitVec.reduceUMod, BitVec.reduceAnd, BitVec.reduceOr, BitVec.reduceXOr, BitVec.reduceNot, BitVec.reduceNeg, BitVec.reduceHShiftLeft, BitVec.reduceHShiftRight, Nat.reduceAdd, Nat.reduceMul, Nat.reduceSub, Nat.reduceBEq, Nat.reduceEqDiff, Nat.reduceLeDiff, Nat.reduceLT, Int.reduceLE, Int.reduceLT, Int.reduceAdd, Int.reduceSub, Int.reduceMul, Int.reduceNeg, Int.reduceToNat, Int.reduceEq, ↓reduceIte, reduceCtorEq, xl, yl, hz, hz2, wt, ot, bt, s_live17_eq]; repeat (simp (disch := omega) only [w64_d, ipos, ineg, dpos, dneg]; try simp (config := { maxSteps := 10000000 }) only [go_sem, List.reduceReplicate, BitVec.reduceOfInt, BitVec.reduceToNat, BitVec.reduceToInt, BitVec.reduceEq, BitVec.reduceLT, BitVec.reduceLE, BitVec.reduceAdd, BitVec.reduceSub, BitVec.reduceMul, BitVec.reduceUDiv, BitVec.reduceUMod, BitVec.reduceAnd, BitVec.reduceOr, BitVec.reduceXOr, BitVec.reduceNot, BitVec.reduceNeg, BitVec.reduceHShiftLeft, BitVec.reduceHShiftRight, Nat.reduceAdd, Nat.reduceMul, Nat.reduceSub, Nat.reduceBEq, Nat.reduceEqDiff, Nat.reduceLeDiff, Nat.reduceLT, Int.reduceLE, Int.reduceLT, Int.reduceAdd, Int.reduceSub, Int.reduceMul, Int.reduceNeg, Int.reduceToNat, Int.reduceEq, ↓reduceIte, reduceCtorEq, xl, yl, hz, hz2, wt, ot, bt, s_live17_eq]))
                first | exact fin | exact ⟨rfl, fin⟩
              · (try simp (config := { maxSteps := 10000000 }) only [go_sem, List.reduceReplicate, BitVec.reduceOfInt, BitVec.reduceToNat, BitVec.reduceToInt, BitVec.reduceEq, BitVec.reduceLT, BitVec.reduceLE, BitVec.reduceAdd, BitVec.reduceSub, BitVec.reduceMul, BitVec.reduceUDiv, BitVec.reduceUMod, BitVec.reduceAnd, BitVec.reduceOr, BitVec.reduceXOr, BitVec.reduceNot, BitVec.reduceNeg, BitVec.reduceHShiftLeft, BitVec.reduceHShiftRight, Nat.reduceAdd, Nat.reduceMul, Nat.reduceSub, Nat.reduceBEq, Nat.reduceEqDiff, Nat.reduceLeDiff, Nat.reduceLT, Int.reduceLE, Int.reduceLT, Int.reduceAdd, Int.reduceSub, Int.reduceMul, Int.reduceNeg, Int.reduceToNat, Int.reduceEq, ↓reduceIte, reduceCtorEq, xl, yl, hz, wt, ot, bt, s_live17_eq]; repeat (simp (disch := omega) only [w64_d, ipos, ineg, dpos, dneg]; try simp (config := { maxSteps := 10000000 }) only [go_sem, List.reduceReplicate, BitVec.reduceOfInt, BitVec.reduceToNat, BitVec.reduceToInt, BitVec.reduceEq, BitVec.reduceLT, BitVec.reduceLE, BitVec.reduceAdd, BitVec.reduceSub, BitVec.reduceMul, BitVec.reduceUDiv, BitVec.reduceUMod, BitVec.reduceAnd, BitVec.reduceOr, BitVec.reduceXOr, BitVec.reduceNot, BitVec.reduceNeg, BitVec.reduceHShiftLeft, BitVec.reduceHShiftRight, Nat.reduceAdd, Nat.reduceMul, Nat.reduceSub, Nat.reduceBEq, Nat.reduceEqDiff, Nat.reduceLeDiff, Nat.reduceLT, Int.reduceLE, Int.reduceLT, Int.reduceAdd, Int.reduceSub, Int.reduceMul, Int.reduceNeg, Int.reduceToNat, Int.reduceEq, ↓reduceIte, reduceCtorEq, xl, yl, hz, wt, ot, bt, s_live17_eq]))
                first | exact fin | exact ⟨rfl, fin⟩
      · simp at h
    · simp at h
  · simp at h
theorem sig_ukeeps (avs : List AV) (H : AH) (h : SigA [.sl [.n .u8], .sl [.n .u8]] avs H) : s_ukeeps avs H = some (.c (.b true)) := by
  have k : ∀ cs, L2 FitK cs [.n .u8] → ∃ x, cs = enc8 x ∧ (0 ≤ x ∧ x ≤ 255) := fun cs hcs => by
    obtain ⟨a, _, rfl, ka, g⟩ := fit_cons hcs
    obtain rfl := fit_nil g
    obtain ⟨a, rfl, h1, h2⟩ := fk_8 ka
    exact ⟨a, rfl, h1, h2⟩
  obtain ⟨x, r1, rfl, h2, l, hl, hp, hn⟩ := sig_row (f := enc8) (w := 1) (dc := dc8) k enc8_l dc8_e h
  obtain ⟨y, r2, rfl, h3, r, hr, _, hm⟩ := sig_row (f := enc8) (w := 1) (dc := dc8) k enc8_l dc8_e h2
  obtain rfl := sig_nil h3
  simp only [s_ukeeps, hl, hr]
  rw [if_pos ⟨hn, hm⟩]
end
end Go.Proofs.Ytbjkcjpcnbephaa
