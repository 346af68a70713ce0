/- Layer 31: a hart's last event, how many there are of each kind: contracts. -/
import Derived.Test.YtamjmjllgmachaaE6
namespace Go.Proofs.Ytamjmjllgmachaa
open Go.Am
set_option linter.unusedSimpArgs false
set_option linter.unusedVariables false
noncomputable section

def pE (L : List Ev) (h : Int) (K : List Int) (i : Nat) : Bool := match L[i]? with
  | some e => decide (gi e.1 0 = h) && decide (gi e.1 1 ∈ K)
  | none => false
def lastK (L : List Ev) (h : Int) (K : List Int) : Nat → Option Nat
  | 0 => none
  | n + 1 => if pE L h K n = true then some n else lastK L h K n
def lastV (o : Option Nat) : Int := match o with
  | some i => (i : Int)
  | none => 0
def s_elast (args : List AV) (H : AH) : Option AV :=
  match args with
  | [.c x, .c (.i h), .c y] =>
    match slD 65 dcE H x, slD 1 dcI H y with
    | some L, some K => if L.length ≤ 1000000 ∧ K.length ≤ 1000000 then some (.t [.c (.i (lastV (lastK L h K L.length))), .c (.b (lastK L h K L.length).isSome)]) else none
    | _, _ => none
  | _ => none
theorem s_elast_of {x y : Sc} {h : Int} {H : AH} {L : List Ev} {K : List Int} (h1 : slD 65 dcE H x = some L) (h2 : slD 1 dcI H y = some K) (hl : L.length ≤ 1000000 ∧ K.length ≤ 1000000) : s_elast [.c x, .c (.i h), .c y] H = some (.t [.c (.i (lastV (lastK L h K L.length))), .c (.b (lastK L h K L.length).isSome)]) := by
  simp only [s_elast, h1, h2, hl, and_self, if_true]
set_option maxRecDepth 100000 in
set_option maxHeartbeats 2000000 in
theorem ok_elast : FpOk Try.prog 14 (fun args H => (s_elast args H).map fun v => (v, H)) := by
  refine fq_ok (s := s_elast) (tab := [(26, .fq s_econt)]) hmix (TabOk.cons (e := .fq s_econt) ok_econt TabOk.nil) Try.func14 rfl Try.results14 Try.ntmps14 (by kernel_rfl) (by kernel_rfl) ?_
  intro args H v h hargs hH
  unfold s_elast at h
  split at h
  · rename_i x hh y
    split at h
    · rename_i L K hL hK
      split at h
      · rename_i hc
        obtain ⟨hn, hm⟩ := hc
        simp only [Option.some.injEq] at h
        subst h
        refine ⟨by simp only [List.length_cons, List.length_nil]; decide, rfl, ?_⟩
        have bx : x.bel H.length = true := by simp only [List.all_cons, AV.bel, Bool.and_eq_true] at hargs; exact hargs.1
        have byy : y.bel H.length = true := by simp only [List.all_cons, AV.bel, Bool.and_eq_true] at hargs; exact hargs.2.2.1
        have hx := slD_inv dcE_d hL
        have xl : ∀ e, lenB (.sl e) (.c x) = some (.c (.i L.length)) := by
          intro e
          rcases hx with ⟨rfl, rfl⟩ | ⟨id2, v2, rfl, _, _⟩ <;> rfl
        have e0 : w64 ((L.length : Int) - 1) = (L.length : Int) - 1 := w64_of (by omega)
        have qc := fun k => s_econt_of (k := k) hK hm
        (try simp (config := { maxSteps := 10000000 }) only [go_sem, List.reduceReplicate, BitVec.reduceOfInt, BitVec.reduceToNat, BitVec.reduceToInt, BitVec.reduceEq, BitVec.reduceLT, BitVec.reduceLE, BitVec.reduceAdd, BitVec.reduceSub, BitVec.reduceMul, BitVec.reduceUDiv, BitVec.reduceUMod, BitVec.reduceAnd, BitVec.reduceOr, BitVec.reduceXOr, BitVec.reduceNot, BitVec.reduceNeg, BitVec.reduceHShiftLeft, BitVec.reduceHShiftRight, Nat.reduceAdd, Nat.reduceMul, Nat.reduceSub, Nat.reduceBEq, Nat.reduceEqDiff, Nat.reduceLeDiff, Nat.reduceLT, Int.reduceLE, Int.reduceLT, Int.reduceAdd, Int.reduceSub, Int.reduceMul, Int.reduceNeg, Int.reduceToNat, Int.reduceEq, ↓reduceIte, reduceCtorEq, xl, e0]; repeat (simp (disch := omega) only [w64_d, ipos, ineg, dpos, dneg]; try simp (config := { maxSteps := 10000000 }) only [go_sem, List.reduceReplicate, BitVec.reduceOfInt, BitVec.reduceToNat, BitVec.reduceToInt, BitVec.reduceEq, BitVec.reduceLT, BitVec.reduceLE, BitVec.reduceAdd, BitVec.reduceSub, BitVec.reduceMul, BitVec.reduceUDiv, BitVec.reduceUMod, BitVec.reduceAnd, BitVec.reduceOr, BitVec.reduceXOr, BitVec.reduceNot, BitVec.reduceNeg, BitVec.reduceHShiftLeft, BitVec.reduceHShiftRight, Nat.reduceAdd, Nat.reduceMul, Nat.reduceSub, Nat.reduceBEq, Nat.reduceEqDiff, Nat.reduceLeDiff, Nat.reduceLT, Int.reduceLE, Int.reduceLT, Int.reduceAdd, Int.reduceSub, Int.reduceMul, Int.reduceNeg, Int.reduceToNat, Int.reduceEq, ↓reduceIte, reduceCtorEq, xl, e0]))
        rw [arun_loop]
        refine ⟨{m : Nat // m ≤ L.length ∧ lastK L hh K L.length = lastK L hh K m}, fun m => ([(0, .c x), (1, .c (.i hh)), (2, .c y), (8, .c (.i ((m.1 : Int) - 1)))], H), fun m => m.1, ⟨L.length, Nat.le_refl _, rfl⟩, ?_, ?_⟩
        · exact Wk.wk (by simp [lo]) (by simp [Am.get]) (by simp only [List.all_cons, List.all_nil, Bool.and_true, Bool.and_eq_true, AV.bel]; exact ⟨bx, rfl, byy, rfl⟩) (subH_refl _) hH
        · rintro ⟨m, hm2, hlast⟩
          simp only
          rw [hlast]
          cases m with
          | zero =>
            have k0 : ¬ (0 : Int) ≤ ((0 : Nat) : Int) - 1 := by omega
            (try simp (config := { maxSteps := 10000000 }) only [go_sem, List.reduceReplicate, BitVec.reduceOfInt, BitVec.reduceToNat, BitVec.reduceToInt, BitVec.reduceEq, BitVec.reduceLT, BitVec.reduceLE, BitVec.reduceAdd, BitVec.reduceSub, BitVec.reduceMul, BitVec.reduceUDiv, BitVec.reduceUMod, BitVec.reduceAnd, BitVec.reduceOr, BitVec.reduceXOr, BitVec.reduceNot, BitVec.reduceNeg, BitVec.reduceHShiftLeft, BitVec.reduceHShiftRight, Nat.reduceAdd, Nat.reduceMul, Nat.reduceSub, Nat.reduceBEq, Nat.reduceEqDiff, Nat.reduceLeDiff, Nat.reduceLT, Int.reduceLE, Int.reduceLT, Int.reduceAdd, Int.reduceSub, Int.reduceMul, Int.reduceNeg, Int.reduceToNat, Int.reduceEq, ↓reduceIte, reduceCtorEq, k0, lastK, lastV, Option.isSome_none]; repeat (simp (disch := omega) only [w64_d, ipos, ineg, dpos, dneg]; try simp (config := { maxSteps := 10000000 }) only [go_sem, List.reduceReplicate, BitVec.reduceOfInt, BitVec.reduceToNat, BitVec.reduceToInt, BitVec.reduceEq, BitVec.reduceLT, BitVec.reduceLE, BitVec.reduceAdd, BitVec.reduceSub, BitVec.reduceMul, BitVec.reduceUDiv, BitVec.reduceUMod, BitVec.reduceAnd, BitVec.reduceOr, BitVec.reduceXOr, BitVec.reduceNot, BitVec.reduceNeg, BitVec.reduceHShiftLeft, BitVec.reduceHShiftRight, Nat.reduceAdd, Nat.reduceMul, Nat.reduceSub, Nat.reduceBEq, Nat.reduceEqDiff, Nat.reduceLeDiff, Nat.reduceLT, Int.reduceLE, Int.reduceLT, Int.reduceAdd, Int.reduceSub, Int.reduceMul, Int.reduceNeg, Int.reduceToNat, Int.reduceEq, ↓reduceIte, reduceCtorEq, k0, lastK, lastV, Option.isSome_none]))
            exact subH_refl _
          | succ k =>
            have k0 : (0 : Int) ≤ (k : Int) := by omega
            have kc : ((k + 1 : Nat) : Int) - 1 = (k : Int) := by omega
            have hlt : k < L.length := hm2
            have kI : ((k : Int) < (L.length : Int)) := by omega
            obtain ⟨e, he⟩ : ∃ e, L[k]? = some e := ⟨_, List.getElem?_eq_getElem hlt⟩
            have e1 : w64 ((k : Int) - 1) = (k : Int) - 1 := w64_of (by omega)
            rcases hx with ⟨rfl, rfl⟩ | ⟨i1, v1, rfl, hv1, hcs1⟩
            · simp at hlt
            have hv1 := hv1.symm
            have b1 : (k * 65 + 65 ≤ (hg H i1).cells.length) = True := eq_true (by rw [hcs1]; exact fm_le encE_l hlt)
            have b2 : (k * 65 + 1 ≤ (hg H i1).cells.length) = True := eq_true (Nat.le_trans (by omega) (of_eq_true b1))
            have b3 : (k * 65 + 1 + 1 ≤ (hg H i1).cells.length) = True := eq_true (Nat.le_trans (by omega) (of_eq_true b1))
            have b4 : (k * 65 + 2 ≤ (hg H i1).cells.length) = True := eq_true (Nat.le_trans (by omega) (of_eq_true b1))
            have f0 := (fit_i e.2 0 rfl).1
            have f1 := (fit_i e.2 1 rfl).1
            have g0 : (hg H i1).cells.getD (k * 65) .any = .i (gi e.1 0) := by
              have := fm_cell encE_l he (i := 0) (by decide)
              rw [Nat.add_zero] at this
              rw [hcs1, this]; exact f0
            have g1 : (hg H i1).cells.getD (k * 65 + 1) .any = .i (gi e.1 1) := by
              have := fm_cell encE_l he (i := 1) (by decide)
              rw [hcs1, this]; exact f1
            have hp : pE L hh K k = (decide (gi e.1 0 = hh) && decide (gi e.1 1 ∈ K)) := by unfold pE; rw [he]
            by_cases h0 : gi e.1 0 = hh
            · by_cases h1 : gi e.1 1 ∈ K
              · have el : lastK L hh K (k + 1) = some k := by rw [lastK, hp]; simp [h0, h1]
                (try simp (config := { maxSteps := 10000000 }) only [go_sem, List.reduceReplicate, BitVec.reduceOfInt, BitVec.reduceToNat, BitVec.reduceToInt, BitVec.reduceEq, BitVec.reduceLT, BitVec.reduceLE, BitVec.reduceAdd, BitVec.reduceSub, BitVec.reduceMul, BitVec.reduceUDiv, BitVec.reduceUMod, BitVec.reduceAnd, BitVec.reduceOr, BitVec.reduceXOr, BitVec.reduceNot, BitVec.reduceNeg, BitVec.reduceHShiftLeft, BitVec.reduceHShiftRight, Nat.reduceAdd, Nat.reduceMul, Nat.reduceSub, Nat.reduceBEq, Nat.reduceEqDiff, Nat.reduceLeDiff, Nat.reduceLT, Int.reduceLE, Int.reduceLT, Int.reduceAdd, Int.reduceSub, Int.reduceMul, Int.reduceNeg, Int.reduceToNat, Int.reduceEq, ↓reduceIte, reduceCtorEq, kc, k0, kI, hv1, b1, b2, b3, b4, g0, g1, h0, qc, h1, el, lastV, Option.isSome_some]; repeat (simp (disch := omega) only [w64_d, ipos, ineg, dpos, dneg]; try simp (config := { maxSteps := 10000000 }) only [go_sem, List.reduceReplicate, BitVec.reduceOfInt, BitVec.reduceToNat, BitVec.reduceToInt, BitVec.reduceEq, BitVec.reduceLT, BitVec.reduceLE, BitVec.reduceAdd, BitVec.reduceSub, BitVec.reduceMul, BitVec.reduceUDiv, BitVec.reduceUMod, BitVec.reduceAnd, BitVec.reduceOr, BitVec.reduceXOr, BitVec.reduceNot, BitVec.reduceNeg, BitVec.reduceHShiftLeft, BitVec.reduceHShiftRight, Nat.reduceAdd, Nat.reduceMul, Nat.reduceSub, Nat.reduceBEq, Nat.reduceEqDiff, Nat.reduceLeDiff, Nat.reduceLT, Int.reduceLE, Int.reduceLT, Int.reduceAdd, Int.reduceSub, Int.reduceMul, Int.reduceNeg, Int.reduceToNat, Int.reduceEq, ↓reduceIte, reduceCtorEq, kc, k0, kI, hv1, b1, b2, b3, b4, g0, g1, h0, qc, h1, el, lastV, Option.isSome_some]))
                exact subH_refl _
              · have el : lastK L hh K (k + 1) = lastK L hh K k := by rw [lastK, hp]; simp [h0, h1]
                (try simp (config := { maxSteps := 10000000 }) only [go_sem, List.reduceReplicate, BitVec.reduceOfInt, BitVec.reduceToNat, BitVec.reduceToInt, BitVec.reduceEq, BitVec.reduceLT, BitVec.reduceLE, BitVec.reduceAdd, BitVec.reduceSub, BitVec.reduceMul, BitVec.reduceUDiv, BitVec.reduceUMod, BitVec.reduceAnd, BitVec.reduceOr, BitVec.reduceXOr, BitVec.reduceNot, BitVec.reduceNeg, BitVec.reduceHShiftLeft, BitVec.reduceHShiftRight, Nat.reduceAdd, Nat.reduceMul, Nat.reduceSub, Nat.reduceBEq, Nat.reduceEqDiff, Nat.reduceLeDiff, Nat.reduceLT, Int.reduceLE, Int.reduceLT, Int.reduceAdd, Int.reduceSub, Int.reduceMul, Int.reduceNeg, Int.reduceToNat, Int.reduceEq, ↓reduceIte, reduceCtorEq, kc, k0, kI, hv1, b1, b2, b3, b4, g0, g1, h0, qc, h1, e1]; repeat (simp (disch := omega) only [w64_d, ipos, ineg, dpos, dneg]; try simp (config := { maxSteps := 10000000 }) only [go_sem, List.reduceReplicate, BitVec.reduceOfInt, BitVec.reduceToNat, BitVec.reduceToInt, BitVec.reduceEq, BitVec.reduceLT, BitVec.reduceLE, BitVec.reduceAdd, BitVec.reduceSub, BitVec.reduceMul, BitVec.reduceUDiv, BitVec.reduceUMod, BitVec.reduceAnd, BitVec.reduceOr, BitVec.reduceXOr, BitVec.reduceNot, BitVec.reduceNeg, BitVec.reduceHShiftLeft, BitVec.reduceHShiftRight, Nat.reduceAdd, Nat.reduceMul, Nat.reduceSub, Nat.reduceBEq, Nat.reduceEqDiff, Nat.reduceLeDiff, Nat.reduceLT, Int.reduceLE, Int.reduceLT, Int.reduceAdd, Int.reduceSub, Int.reduceMul, Int.reduceNeg, Int.reduceToNat, Int.reduceEq, ↓reduceIte, reduceCtorEq, kc, k0, kI, hv1, b1, b2, b3, b4, g0, g1, h0, qc, h1, e1]))
                exact ⟨⟨k, by omega, el⟩, by simp only; omega, Wk.wk (by simp [lo]) (by simp [Am.get]) (by simp only [List.all_cons, List.all_nil, Bool.and_true, Bool.and_eq_true, AV.bel]; exact ⟨bx, rfl, byy, rfl⟩) (subH_refl _) hH⟩
            · have el : lastK L hh K (k + 1) = lastK L hh K k := by rw [lastK, hp]; simp [h0]
              (try simp (config := { maxSteps := 10000000 }) only [go_sem, List.reduceReplicate, BitVec.reduceOfInt, BitVec.reduceToNat, BitVec.reduceToInt, BitVec.reduceEq, BitVec.reduceLT, BitVec.reduceLE, BitVec.reduceAdd, BitVec.reduceSub, BitVec.reduceMul, BitVec.reduceUDiv, BitVec.reduceUMod, BitVec.reduceAnd, BitVec.reduceOr, BitVec.reduceXOr, BitVec.reduceNot, BitVec.reduceNeg, BitVec.reduceHShiftLeft, BitVec.reduceHShiftRight, Nat.reduceAdd, Nat.reduceMul, Nat.reduceSub, Nat.reduceBEq, Nat.reduceEqDiff, Nat.reduceLeDiff, Nat.reduceLT, Int.reduceLE, Int.reduceLT, Int.reduceAdd, Int.reduceSub, Int.reduceMul, Int.reduceNeg, Int.reduceToNat, Int.reduceEq, ↓reduceIte, reduceCtorEq, kc, k0, kI, hv1, b1, b2, b3, b4, g0, g1, h0, e1]; repeat (simp (disch := omega) only [w64_d, ipos, ineg, dpos, dneg]; try simp (config := { maxSteps := 10000000 }) only [go_sem, List.reduceReplicate, BitVec.reduceOfInt, BitVec.reduceToNat, BitVec.reduceToInt, BitVec.reduceEq, BitVec.reduceLT, BitVec.reduceLE, BitVec.reduceAdd, BitVec.reduceSub, BitVec.reduceMul, BitVec.reduceUDiv, BitVec.reduceUMod, BitVec.reduceAnd, BitVec.reduceOr, BitVec.reduceXOr, BitVec.reduceNot, BitVec.reduceNeg, BitVec.reduceHShiftLeft, BitVec.reduceHShiftRight, Nat.reduceAdd, Nat.reduceMul, Nat.reduceSub, Nat.reduceBEq, Nat.reduceEqDiff, Nat.reduceLeDiff, Nat.reduceLT, Int.reduceLE, Int.reduceLT, Int.reduceAdd, Int.reduceSub, Int.reduceMul, Int.reduceNeg, Int.reduceToNat, Int.reduceEq, ↓reduceIte, reduceCtorEq, kc, k0, kI, hv1, b1, b2, b3, b4, g0, g1, h0, e1]))
              exact ⟨⟨k, by omega, el⟩, by simp only; omega, Wk.wk (by simp [lo]) (by simp [Am.get]) (by simp only [List.all_cons, List.all_nil, Bool.and_true, Bool.and_eq_true, AV.bel]; exact ⟨bx, rfl, byy, rfl⟩) (subH_refl _) hH⟩
      · simp at h
    · simp at h
  · simp at h
def kdN (e : Ev) : Nat := if knownB (gi e.1 1) = true then (gi e.1 1).toNat else 0
def cntF (L : List Ev) (k q : Nat) : Int := ((L.take k).countP fun e => decide (kdN e = q) : Nat)
def cntC (L : List Ev) (k : Nat) : List Sc := (List.range 22).map fun q => .i (cntF L k q)
theorem cntC_len (L : List Ev) (k : Nat) : (cntC L k).length = 22 := by simp [cntC]
theorem cntC_get {L : List Ev} {k q : Nat} (h : q < 22) : (cntC L k).getD q .any = .i (cntF L k q) := by
  unfold cntC
  rw [List.getD_eq_getElem?_getD, List.getElem?_map, List.getElem?_range h]; rfl
theorem cntF_le (L : List Ev) (k q : Nat) : 0 ≤ cntF L k q ∧ cntF L k q ≤ k := by
  unfold cntF
  have := List.countP_le_length (p := fun e => decide (kdN e = q)) (l := L.take k)
  rw [List.length_take] at this
  omega
theorem cntF_s {L : List Ev} {k q : Nat} {e : Ev} (he : L[k]? = some e) : cntF L (k + 1) q = cntF L k q + (if kdN e = q then 1 else 0) := by
  unfold cntF
  rw [List.take_add_one, he, List.countP_append]
  by_cases h : kdN e = q <;> simp [h]
theorem kdN_lt (e : Ev) : kdN e < 22 := by
  unfold kdN knownB
  split
  · rename_i h; simp at h; omega
  · omega
theorem cntC_s {L : List Ev} {k : Nat} {e : Ev} (he : L[k]? = some e) : (cntC L k).take (kdN e) ++ .i (cntF L k (kdN e) + 1) :: (cntC L k).drop (kdN e + 1) = cntC L (k + 1) := by
  have hk := kdN_lt e
  have sq := List.set_eq_take_append_cons_drop (l := cntC L k) (i := kdN e) (a := Sc.i (cntF L k (kdN e) + 1))
  rw [if_pos (by rw [cntC_len]; exact hk)] at sq
  rw [← sq]
  apply List.ext_getElem?
  intro i
  rw [List.getElem?_set]
  unfold cntC
  by_cases hi : i < 22
  · rw [List.getElem?_map, List.getElem?_map, List.getElem?_range hi]
    simp only [Option.map_some, List.length_map, List.length_range]
    by_cases h : kdN e = i
    · subst h
      rw [if_pos rfl, if_pos hi, cntF_s he, if_pos rfl]
    · rw [if_neg h, cntF_s he, if_neg h, Int.add_zero]
  · rw [if_neg (by omega), List.getElem?_eq_none (by simp; omega), List.getElem?_eq_none (by simp; omega)]
theorem cntC_bel (L : List Ev) (k n : Nat) : (cntC L k).all (Sc.bel n) = true ∧ (cntC L k).all Sc.one = true := by
  constructor <;> (unfold cntC; rw [List.all_eq_true]; intro s hs; obtain ⟨q, _, rfl⟩ := List.mem_map.1 hs; rfl)
theorem cntC_0 (L : List Ev) : cntC L 0 = [.i 0, .i 0, .i 0, .i 0, .i 0, .i 0, .i 0, .i 0, .i 0, .i 0, .i 0, .i 0, .i 0, .i 0, .i 0, .i 0, .i 0, .i 0, .i 0, .i 0, .i 0, .i 0] := rfl
def s_ecount (args : List AV) (H : AH) : Option AV :=
  match args with
  | [.c x] =>
    match slD 65 dcE H x with
    | some L => if L.length ≤ 1000000 then some (.g (cntC L L.length)) else none
    | none => none
  | _ => none
theorem s_ecount_of {x : Sc} {H : AH} {L : List Ev} (h1 : slD 65 dcE H x = some L) (hl : L.length ≤ 1000000) : s_ecount [.c x] H = some (.g (cntC L L.length)) := by
  simp only [s_ecount, h1, hl, if_true]
theorem bel_2 {H : AH} (hH : belH H = true) (a b : AObj) (ha : a.cells.all (Sc.bel (H.length + 2)) = true) (hb : b.cells.all (Sc.bel (H.length + 2)) = true) : belH (H ++ [a, b]) = true := by
  unfold belH
  rw [List.all_append, Bool.and_eq_true]
  have ll : (H ++ [a, b]).length = H.length + 2 := by simp
  refine ⟨List.all_eq_true.2 fun o ho => List.all_eq_true.2 fun s hs => Sc.bel_mono (List.all_eq_true.1 (List.all_eq_true.1 hH o ho) s hs) (by simp), ?_⟩
  rw [ll]
  simp only [List.all_cons, List.all_nil, Bool.and_true, ha, hb, Bool.and_self]
set_option maxRecDepth 100000 in
set_option maxHeartbeats 2000000 in
theorem ok_ecount : FpOk Try.prog 15 (fun args H => (s_ecount args H).map fun v => (v, H)) := by
  refine fq_ok (s := s_ecount) (tab := [(27, .pu s_eknown)]) hmix (TabOk.cons (e := .pu s_eknown) ok_eknown TabOk.nil) Try.func15 rfl Try.results15 Try.ntmps15 (by kernel_rfl) (by kernel_rfl) ?_
  intro args H v h hargs hH
  unfold s_ecount at h
  split at h
  · rename_i x
    split at h
    · rename_i L hL
      split at h
      · rename_i hn
        simp only [Option.some.injEq] at h
        subst h
        refine ⟨by simp only [List.length_cons, List.length_nil]; decide, by simp only [AV.bel, (cntC_bel _ _ _).1], ?_⟩
        have bx : x.bel H.length = true := by simp only [List.all_cons, AV.bel, Bool.and_eq_true] at hargs; exact hargs.1
        have hx := slD_inv dcE_d hL
        have xl : ∀ e, lenB (.sl e) (.c x) = some (.c (.i L.length)) := by
          intro e
          rcases hx with ⟨rfl, rfl⟩ | ⟨id2, v2, rfl, _, _⟩ <;> rfl
        (try simp (config := { maxSteps := 10000000 }) only [go_sem, List.reduceReplicate, BitVec.reduceOfInt, BitVec.reduceToNat, BitVec.reduceToInt, BitVec.reduceEq, BitVec.reduceLT, BitVec.reduceLE, BitVec.reduceAdd, BitVec.reduceSub, BitVec.reduceMul, BitVec.reduceUDiv, BitVec.reduceUMod, BitVec.reduceAnd, BitVec.reduceOr, BitVec.reduceXOr, BitVec.reduceNot, BitVec.reduceNeg, BitVec.reduceHShiftLeft, BitVec.reduceHShiftRight, Nat.reduceAdd, Nat.reduceMul, Nat.reduceSub, Nat.reduceBEq, Nat.reduceEqDiff, Nat.reduceLeDiff, Nat.reduceLT, Int.reduceLE, Int.reduceLT, Int.reduceAdd, Int.reduceSub, Int.reduceMul, Int.reduceNeg, Int.reduceToNat, Int.reduceEq, ↓reduceIte, reduceCtorEq, xl]; repeat (simp (disch := omega) only [w64_d, ipos, ineg, dpos, dneg]; try simp (config := { maxSteps := 10000000 }) only [go_sem, List.reduceReplicate, BitVec.reduceOfInt, BitVec.reduceToNat, BitVec.reduceToInt, BitVec.reduceEq, BitVec.reduceLT, BitVec.reduceLE, BitVec.reduceAdd, BitVec.reduceSub, BitVec.reduceMul, BitVec.reduceUDiv, BitVec.reduceUMod, BitVec.reduceAnd, BitVec.reduceOr, BitVec.reduceXOr, BitVec.reduceNot, BitVec.reduceNeg, BitVec.reduceHShiftLeft, BitVec.reduceHShiftRight, Nat.reduceAdd, Nat.reduceMul, Nat.reduceSub, Nat.reduceBEq, Nat.reduceEqDiff, Nat.reduceLeDiff, Nat.reduceLT, Int.reduceLE, Int.reduceLT, Int.reduceAdd, Int.reduceSub, Int.reduceMul, Int.reduceNeg, Int.reduceToNat, Int.reduceEq, ↓reduceIte, reduceCtorEq, xl]))
        refine arun_for L.length (fun k => ([(2, .c (.p H.length 0 0)), (3, .c (.p (H.length + 1) 0 0)), (6, .c x), (7, .c (.i L.length)), (8, .c (.i k))], H ++ [.own (cntC L 0), .own (cntC L k)])) ?_ fun k hk => ?_
        · refine Wk.wk (by simp [lo]) (by simp [Am.get]) ?_ (by rw [cntC_0]; exact subH_refl _) (bel_2 hH _ _ (cntC_bel _ _ _).1 (cntC_bel _ _ _).1)
          have hx2 : x.bel (H.length + 2) = true := Sc.bel_mono bx (by omega)
          have ll : ∀ a b : AObj, (H ++ [a, b]).length = H.length + 2 := fun a b => by simp
          simp only [ll, List.all_cons, List.all_nil, Bool.and_true, Bool.and_eq_true, AV.bel]
          exact ⟨by simp [Sc.bel], by simp [Sc.bel], hx2, rfl, rfl⟩
        · have nx : ∀ (fr : Fr) (X : AH), (∀ p ∈ ([(2, .c (.p H.length 0 0)), (3, .c (.p (H.length + 1) 0 0)), (6, .c x), (7, .c (.i L.length)), (8, .c (.i ((k + 1 : Nat) : Int)))] : Fr), Am.get fr p.1 = p.2) →
              Wk H.length fr (H ++ .own (cntC L 0) :: .own (cntC L (k + 1)) :: X) ([(2, .c (.p H.length 0 0)), (3, .c (.p (H.length + 1) 0 0)), (6, .c x), (7, .c (.i L.length)), (8, .c (.i ((k + 1 : Nat) : Int)))], H ++ [.own (cntC L 0), .own (cntC L (k + 1))]) := by
            intro fr X hf
            refine Wk.wk (by simp) hf ?_ (subH_pre H ⟨.inr rfl, .inr rfl, trivial⟩) (bel_2 hH _ _ (cntC_bel _ _ _).1 (cntC_bel _ _ _).1)
            have hx2 : x.bel (H.length + 2) = true := Sc.bel_mono bx (by omega)
            have ll : ∀ a b : AObj, (H ++ [a, b]).length = H.length + 2 := fun a b => by simp
            simp only [ll, List.all_cons, List.all_nil, Bool.and_true, Bool.and_eq_true, AV.bel]
            exact ⟨by simp [Sc.bel], by simp [Sc.bel], hx2, rfl, rfl⟩
          have k0 : (0 : Int) ≤ (k : Int) := by omega
          have cl := cntC_len L k
          have co := (cntC_bel L k 0).2
          by_cases hlt : k < L.length
          rotate_left
          · obtain rfl : k = L.length := by omega
            have tk : (cntC L L.length).take 22 = cntC L L.length := by rw [← cl, List.take_length]
            have cl0 := cntC_len L 0
            have d0 : (cntC L 0).drop 22 = [] := by rw [← cl0, List.drop_length]
            (try simp (config := { maxSteps := 10000000 }) only [go_sem, List.reduceReplicate, BitVec.reduceOfInt, BitVec.reduceToNat, BitVec.reduceToInt, BitVec.reduceEq, BitVec.reduceLT, BitVec.reduceLE, BitVec.reduceAdd, BitVec.reduceSub, BitVec.reduceMul, BitVec.reduceUDiv, BitVec.reduceUMod, BitVec.reduceAnd, BitVec.reduceOr, BitVec.reduceXOr, BitVec.reduceNot, BitVec.reduceNeg, BitVec.reduceHShiftLeft, BitVec.reduceHShiftRight, Nat.reduceAdd, Nat.reduceMul, Nat.reduceSub, Nat.reduceBEq, Nat.reduceEqDiff, Nat.reduceLeDiff, Nat.reduceLT, Int.reduceLE, Int.reduceLT, Int.reduceAdd, Int.reduceSub, Int.reduceMul, Int.reduceNeg, Int.reduceToNat, Int.reduceEq, ↓reduceIte, reduceCtorEq, cl, co, tk, cl0, d0]; repeat (simp (disch := omega) only [w64_d, ipos, ineg, dpos, dneg]; try simp (config := { maxSteps := 10000000 }) only [go_sem, List.reduceReplicate, BitVec.reduceOfInt, BitVec.reduceToNat, BitVec.reduceToInt, BitVec.reduceEq, BitVec.reduceLT, BitVec.reduceLE, BitVec.reduceAdd, BitVec.reduceSub, BitVec.reduceMul, BitVec.reduceUDiv, BitVec.reduceUMod, BitVec.reduceAnd, BitVec.reduceOr, BitVec.reduceXOr, BitVec.reduceNot, BitVec.reduceNeg, BitVec.reduceHShiftLeft, BitVec.reduceHShiftRight, Nat.reduceAdd, Nat.reduceMul, Nat.reduceSub, Nat.reduceBEq, Nat.reduceEqDiff, Nat.reduceLeDiff, Nat.reduceLT, Int.reduceLE, Int.reduceLT, Int.reduceAdd, Int.reduceSub, Int.reduceMul, Int.reduceNeg, Int.reduceToNat, Int.reduceEq, ↓reduceIte, reduceCtorEq, cl, co, tk, cl0, d0]))
            exact subH_app _ _
          have kI : ((k : Int) < (L.length : Int)) := by omega
          obtain ⟨e, he⟩ : ∃ e, L[k]? = some e := ⟨_, List.getElem?_eq_getElem hlt⟩
          have e1 : w64 ((k : Int) + 1) = ((k + 1 : Nat) : Int) := by rw [w64_of (by omega)]; omega
          rcases hx with ⟨rfl, rfl⟩ | ⟨id2, v2, rfl, hv2, hcs2⟩
          · simp at hlt
          have lid2 : id2 < H.length := by simpa [Sc.bel] using bx
          have gx2 : ∀ X, hg (H ++ X) id2 = hg H id2 := fun X => hg_lt' lid2
          have hv2 := hv2.symm
          have b1 : (k * 65 + 65 ≤ (hg H id2).cells.length) = True := eq_true (by rw [hcs2]; exact fm_le encE_l hlt)
          have g3 : ((hg H id2).cells.drop (k * 65)).take 65 = encE e := by rw [hcs2]; exact fm_get encE_l he
          have le : (encE e).length = 65 := encE_l e
          have oe : (encE e).all Sc.one = true := (fit_all e.2).1
          have f1 : (encE e).getD 1 .any = .i (gi e.1 1) := (fit_i e.2 1 rfl).1
          have cb := cntF_le L k (kdN e)
          have cw : w64 (cntF L k (kdN e) + 1) = cntF L k (kdN e) + 1 := w64_of (by omega)
          have cs := cntC_s he
          have cg := cntC_get (L := L) (k := k) (kdN_lt e)
          have hkl := kdN_lt e
          cases hkn : knownB (gi e.1 1)
          · have hq : kdN e = 0 := by unfold kdN; rw [hkn]; rfl
            rw [hq] at cs cg cw
            simp only [List.take_zero, List.nil_append, Nat.zero_add] at cs
            (try simp (config := { maxSteps := 10000000 }) only [go_sem, List.reduceReplicate, BitVec.reduceOfInt, BitVec.reduceToNat, BitVec.reduceToInt, BitVec.reduceEq, BitVec.reduceLT, BitVec.reduceLE, BitVec.reduceAdd, BitVec.reduceSub, BitVec.reduceMul, BitVec.reduceUDiv, BitVec.reduceUMod, BitVec.reduceAnd, BitVec.reduceOr, BitVec.reduceXOr, BitVec.reduceNot, BitVec.reduceNeg, BitVec.reduceHShiftLeft, BitVec.reduceHShiftRight, Nat.reduceAdd, Nat.reduceMul, Nat.reduceSub, Nat.reduceBEq, Nat.reduceEqDiff, Nat.reduceLeDiff, Nat.reduceLT, Int.reduceLE, Int.reduceLT, Int.reduceAdd, Int.reduceSub, Int.reduceMul, Int.reduceNeg, Int.reduceToNat, Int.reduceEq, ↓reduceIte, reduceCtorEq, s_eknown_eq, xl, kI, k0, e1, gx2, hv2, b1, g3, le, oe, f1, hkn, cl, cg, cw, cs]; repeat (simp (disch := omega) only [w64_d, ipos, ineg, dpos, dneg]; try simp (config := { maxSteps := 10000000 }) only [go_sem, List.reduceReplicate, BitVec.reduceOfInt, BitVec.reduceToNat, BitVec.reduceToInt, BitVec.reduceEq, BitVec.reduceLT, BitVec.reduceLE, BitVec.reduceAdd, BitVec.reduceSub, BitVec.reduceMul, BitVec.reduceUDiv, BitVec.reduceUMod, BitVec.reduceAnd, BitVec.reduceOr, BitVec.reduceXOr, BitVec.reduceNot, BitVec.reduceNeg, BitVec.reduceHShiftLeft, BitVec.reduceHShiftRight, Nat.reduceAdd, Nat.reduceMul, Nat.reduceSub, Nat.reduceBEq, Nat.reduceEqDiff, Nat.reduceLeDiff, Nat.reduceLT, Int.reduceLE, Int.reduceLT, Int.reduceAdd, Int.reduceSub, Int.reduceMul, Int.reduceNeg, Int.reduceToNat, Int.reduceEq, ↓reduceIte, reduceCtorEq, s_eknown_eq, xl, kI, k0, e1, gx2, hv2, b1, g3, le, oe, f1, hkn, cl, cg, cw, cs]))
            exact ⟨k + 1, by omega, by omega, nx _ _ (by simp [Am.get])⟩
          · have hq : kdN e = (gi e.1 1).toNat := by unfold kdN; rw [hkn]; rfl
            have hkb := hkn
            simp only [knownB, Bool.and_eq_true, decide_eq_true_eq] at hkb
            have q0 : 0 ≤ gi e.1 1 := by omega
            have q1 : gi e.1 1 < 22 := by omega
            have q2 : ((gi e.1 1).toNat + 1 ≤ 22) = True := eq_true (by omega)
            rw [hq] at cs cg cw
            (try simp (config := { maxSteps := 10000000 }) only [go_sem, List.reduceReplicate, BitVec.reduceOfInt, BitVec.reduceToNat, BitVec.reduceToInt, BitVec.reduceEq, BitVec.reduceLT, BitVec.reduceLE, BitVec.reduceAdd, BitVec.reduceSub, BitVec.reduceMul, BitVec.reduceUDiv, BitVec.reduceUMod, BitVec.reduceAnd, BitVec.reduceOr, BitVec.reduceXOr, BitVec.reduceNot, BitVec.reduceNeg, BitVec.reduceHShiftLeft, BitVec.reduceHShiftRight, Nat.reduceAdd, Nat.reduceMul, Nat.reduceSub, Nat.reduceBEq, Nat.reduceEqDiff, Nat.reduceLeDiff, Nat.reduceLT, Int.reduceLE, Int.reduceLT, Int.reduceAdd, Int.reduceSub, Int.reduceMul, Int.reduceNeg, Int.reduceToNat, Int.reduceEq, ↓reduceIte, reduceCtorEq, s_eknown_eq, xl, kI, k0, e1, gx2, hv2, b1, g3, le, oe, f1, hkn, cl, q0, q1, q2, cg, cw, cs]; repeat (simp (disch := omega) only [w64_d, ipos, ineg, dpos, dneg]; try simp (config := { maxSteps := 10000000 }) only [go_sem, List.reduceReplicate, BitVec.reduceOfInt, BitVec.reduceToNat, BitVec.reduceToInt, BitVec.reduceEq, BitVec.reduceLT, BitVec.reduceLE, BitVec.reduceAdd, BitVec.reduceSub, BitVec.reduceMul, BitVec.reduceUDiv, BitVec.reduceUMod, BitVec.reduceAnd, BitVec.reduceOr, BitVec.reduceXOr, BitVec.reduceNot, BitVec.reduceNeg, BitVec.reduceHShiftLeft, BitVec.reduceHShiftRight, Nat.reduceAdd, Nat.reduceMul, Nat.reduceSub, Nat.reduceBEq, Nat.reduceEqDiff, Nat.reduceLeDiff, Nat.reduceLT, Int.reduceLE, Int.reduceLT, Int.reduceAdd, Int.reduceSub, Int.reduceMul, Int.reduceNeg, Int.reduceToNat, Int.reduceEq, ↓reduceIte, reduceCtorEq, s_eknown_eq, xl, kI, k0, e1, gx2, hv2, b1, g3, le, oe, f1, hkn, cl, q0, q1, q2, cg, cw, cs]))
            exact ⟨k + 1, by omega, by omega, nx _ _ (by simp [Am.get])⟩
      · simp at h
    · simp at h
  · simp at h

end
end Go.Proofs.Ytamjmjllgmachaa
