/- Layer 3: which op a word is: contracts. -/
import Derived.Test.YtcfnfdafcfpohaaI2
import Derived.Test.YtcfnfdafcfpohaaArr
namespace Go.Proofs.Ytcfnfdafcfpohaa
open Go.Am
set_option linter.unusedSimpArgs false
set_option linter.unusedVariables false
noncomputable section

/-- the first number of which p holds, or n -/
def fstN (p : Nat → Bool) : Nat → Nat
  | 0 => 0
  | n + 1 => if fstN p n < n then fstN p n else if p n = true then n else n + 1
theorem fstN_le (p : Nat → Bool) : ∀ n, fstN p n ≤ n
  | 0 => Nat.le_refl _
  | n + 1 => by
    have := fstN_le p n
    simp only [fstN]
    repeat' split
    all_goals omega
theorem fstN_not {p : Nat → Bool} : ∀ {n k : Nat}, k < fstN p n → p k = false
  | 0, k, h => by simp [fstN] at h
  | n + 1, k, h => by
    have l := fstN_le p n
    simp only [fstN] at h
    split at h
    · exact fstN_not h
    · split at h
      · exact fstN_not (n := n) (by omega)
      · by_cases e : k = n
        · subst e; simpa using ‹¬p _ = true›
        · exact fstN_not (n := n) (by omega)
theorem fstN_hit {p : Nat → Bool} : ∀ {n : Nat}, fstN p n < n → p (fstN p n) = true
  | 0, h => by omega
  | n + 1, h => by
    simp only [fstN] at h ⊢
    split
    · exact fstN_hit ‹_›
    · split
      · assumption
      · rename_i h1 h2; rw [if_neg h1, if_neg h2] at h; omega
def hitB (w op : Int) : Bool := decide (andK w (fixM op) = fixV op)
/-- of a range: how many are no hits ahead of the first one; how many there are -/
def rngN (a b : Int) : Nat := (b + 1 - a).toNat
def rngF (w a b : Int) : Nat := fstN (fun k => hitB w (a + k)) (rngN a b)
def lg (L : List Int) (i : Nat) : Int := L.getD i 0
def pairF (w : Int) (L : List Int) : Nat := fstN (fun j => decide (rngF w (lg L (2 * j)) (lg L (2 * j + 1)) < rngN (lg L (2 * j)) (lg L (2 * j + 1)))) (L.length / 2)
def seekT (w : Int) (L : List Int) : Int := if pairF w L < L.length / 2 then lg L (2 * pairF w L) + rngF w (lg L (2 * pairF w L)) (lg L (2 * pairF w L + 1)) else 0
def smallB (L : List Int) : Bool := L.all fun x => decide (-1000000 ≤ x) && decide (x ≤ 1000000)
def s_iseek (args : List AV) (H : AH) : Option AV :=
  match args with
  | [.c (.k .u32 w), .c x] =>
    match slD 1 dcI H x with
    | some L => if L.length % 2 = 0 ∧ L.length ≤ 1000 ∧ smallB L = true then some (.c (.i (seekT w L))) else none
    | none => none
  | _ => none
theorem lg_get {L : List Int} {i : Nat} (h : i < L.length) : L[i]? = some (lg L i) := by
  simp [lg, h]
theorem lg_small {L : List Int} (h : smallB L = true) (i : Nat) : -1000000 ≤ lg L i ∧ lg L i ≤ 1000000 := by
  by_cases hi : i < L.length
  · have := List.all_eq_true.1 h (L[i]) (List.getElem_mem hi)
    have e : lg L i = L[i] := by simp [lg, hi]
    rw [e]; simpa using this
  · have e : lg L i = 0 := by simp [lg, List.getElem?_eq_none (by omega : L.length ≤ i)]
    rw [e]; omega
set_option maxHeartbeats 4000000 in
set_option maxRecDepth 100000 in
set_option maxHeartbeats 2000000 in
theorem ok_iseek : FpOk Try.prog 44 (fun args H => (s_iseek args H).map fun v => (v, H)) := by
  refine fq_ok (s := s_iseek) (tab := [(21, .pu s_ifixed)]) hmix (TabOk.cons (e := .pu s_ifixed) ok_ifixed TabOk.nil) Try.func44 rfl Try.results44 Try.ntmps44 (by kernel_rfl) (by kernel_rfl) ?_
  intro args H v h hargs hH
  unfold s_iseek at h
  split at h
  · rename_i w x
    split at h
    · rename_i L hL
      split at h
      · rename_i hc
        obtain ⟨c1, c2, c3⟩ := hc
        simp only [Option.some.injEq] at h
        subst h
        refine ⟨by simp only [List.length_cons, List.length_nil]; decide, rfl, ?_⟩
        have bx : x.bel H.length = true := by simp only [List.all_cons, AV.bel, Bool.and_eq_true] at hargs; exact hargs.2.1
        have xl : ∀ e, lenB (.sl e) (.c x) = some (.c (.i L.length)) := by
          intro e
          rcases slD_inv dcI_d hL with ⟨rfl, rfl⟩ | ⟨id2, v2, rfl, hv2, hcs2⟩ <;> rfl
        have pl : pairF w L ≤ L.length / 2 := fstN_le _ _
        (try simp (config := { maxSteps := 10000000 }) only [go_sem, List.reduceReplicate, BitVec.reduceOfInt, BitVec.reduceToNat, BitVec.reduceToInt, BitVec.reduceEq, BitVec.reduceLT, BitVec.reduceLE, BitVec.reduceAdd, BitVec.reduceSub, BitVec.reduceMul, BitVec.reduceUDiv, BitVec.reduceUMod, BitVec.reduceAnd, BitVec.reduceOr, BitVec.reduceXOr, BitVec.reduceNot, BitVec.reduceNeg, BitVec.reduceHShiftLeft, BitVec.reduceHShiftRight, Nat.reduceAdd, Nat.reduceMul, Nat.reduceSub, Nat.reduceBEq, Nat.reduceEqDiff, Nat.reduceLeDiff, Nat.reduceLT, Int.reduceLE, Int.reduceLT, Int.reduceAdd, Int.reduceSub, Int.reduceMul, Int.reduceNeg, Int.reduceToNat, Int.reduceEq, ↓reduceIte, reduceCtorEq]; repeat (simp (disch := omega) only [w64_d, ipos, ineg, dpos, dneg]; try simp (config := { maxSteps := 10000000 }) only [go_sem, List.reduceReplicate, BitVec.reduceOfInt, BitVec.reduceToNat, BitVec.reduceToInt, BitVec.reduceEq, BitVec.reduceLT, BitVec.reduceLE, BitVec.reduceAdd, BitVec.reduceSub, BitVec.reduceMul, BitVec.reduceUDiv, BitVec.reduceUMod, BitVec.reduceAnd, BitVec.reduceOr, BitVec.reduceXOr, BitVec.reduceNot, BitVec.reduceNeg, BitVec.reduceHShiftLeft, BitVec.reduceHShiftRight, Nat.reduceAdd, Nat.reduceMul, Nat.reduceSub, Nat.reduceBEq, Nat.reduceEqDiff, Nat.reduceLeDiff, Nat.reduceLT, Int.reduceLE, Int.reduceLT, Int.reduceAdd, Int.reduceSub, Int.reduceMul, Int.reduceNeg, Int.reduceToNat, Int.reduceEq, ↓reduceIte, reduceCtorEq]))
        refine arun_for (pairF w L) (fun j => ([(0, .c (.k .u32 w)), (1, .c x), (5, .c (.i (2 * j : Nat)))], H)) ?_ fun j hj => ?_
        · exact Wk.wk (by simp [lo]) (by simp [Am.get]) (by simp only [List.all_cons, List.all_nil, AV.bel, bx]; rfl) (subH_refl _) hH
        · have e1 : w64 (((2 * j : Nat) : Int) + 1) = ((2 * j + 1 : Nat) : Int) := by rw [w64_of (by omega)]; omega
          by_cases hlt : j < L.length / 2
          · have f1 := lg_get (L := L) (i := 2 * j) (by omega)
            have f2 := lg_get (L := L) (i := 2 * j + 1) (by omega)
            have s1 := lg_small c3 (2 * j)
            have s2 := lg_small c3 (2 * j + 1)
            generalize ha : lg L (2 * j) = a at *
            generalize hb : lg L (2 * j + 1) = b at *
            rcases slD_inv dcI_d hL with ⟨rfl, rfl⟩ | ⟨id, v, rfl, hv, hcs⟩
            · simp at hlt
            have lid : id < H.length := by simpa [Sc.bel] using bx
            have g1 := fm1 (f := encI) (g := Sc.i) (fun _ => rfl) f1
            have g2 := fm1 (f := encI) (g := Sc.i) (fun _ => rfl) f2
            have g3 := fm_len encI_l L
            rw [← hcs] at g1 g2 g3
            have hv := hv.symm
            have q1 : 2 * j + 1 < L.length := by omega
            have q2 : ((2 * j + 1 : Nat) : Int) < (L.length : Int) := by omega
            have q3 : 0 ≤ ((2 * j : Nat) : Int) := by omega
            have q4 : ((2 * j : Nat) : Int) < (L.length : Int) := by omega
            have q5 : 0 ≤ ((2 * j + 1 : Nat) : Int) := by omega
            have q6 : 2 * j + 1 ≤ L.length * 1 := by omega
            have q7 : 2 * j + 1 + 1 ≤ L.length * 1 := by omega
            (try simp (config := { maxSteps := 10000000 }) only [go_sem, List.reduceReplicate, BitVec.reduceOfInt, BitVec.reduceToNat, BitVec.reduceToInt, BitVec.reduceEq, BitVec.reduceLT, BitVec.reduceLE, BitVec.reduceAdd, BitVec.reduceSub, BitVec.reduceMul, BitVec.reduceUDiv, BitVec.reduceUMod, BitVec.reduceAnd, BitVec.reduceOr, BitVec.reduceXOr, BitVec.reduceNot, BitVec.reduceNeg, BitVec.reduceHShiftLeft, BitVec.reduceHShiftRight, Nat.reduceAdd, Nat.reduceMul, Nat.reduceSub, Nat.reduceBEq, Nat.reduceEqDiff, Nat.reduceLeDiff, Nat.reduceLT, Int.reduceLE, Int.reduceLT, Int.reduceAdd, Int.reduceSub, Int.reduceMul, Int.reduceNeg, Int.reduceToNat, Int.reduceEq, ↓reduceIte, reduceCtorEq, e1, xl, q2, q3, q4, q5, q6, g1, g2, g3, hv]; repeat (simp (disch := omega) only [w64_d, ipos, ineg, dpos, dneg]; try simp (config := { maxSteps := 10000000 }) only [go_sem, List.reduceReplicate, BitVec.reduceOfInt, BitVec.reduceToNat, BitVec.reduceToInt, BitVec.reduceEq, BitVec.reduceLT, BitVec.reduceLE, BitVec.reduceAdd, BitVec.reduceSub, BitVec.reduceMul, BitVec.reduceUDiv, BitVec.reduceUMod, BitVec.reduceAnd, BitVec.reduceOr, BitVec.reduceXOr, BitVec.reduceNot, BitVec.reduceNeg, BitVec.reduceHShiftLeft, BitVec.reduceHShiftRight, Nat.reduceAdd, Nat.reduceMul, Nat.reduceSub, Nat.reduceBEq, Nat.reduceEqDiff, Nat.reduceLeDiff, Nat.reduceLT, Int.reduceLE, Int.reduceLT, Int.reduceAdd, Int.reduceSub, Int.reduceMul, Int.reduceNeg, Int.reduceToNat, Int.reduceEq, ↓reduceIte, reduceCtorEq, e1, xl, q2, q3, q4, q5, q6, g1, g2, g3, hv]))
            have rl : rngF w a b ≤ rngN a b := fstN_le _ _
            have bs : (AV.c (.sl id 0 v L.length)).bel H.length = true := bx
            have pq : (j < pairF w L ∧ rngF w a b = rngN a b) ∨ (j = pairF w L ∧ rngF w a b < rngN a b) := by
              by_cases h : j < pairF w L
              · refine .inl ⟨h, ?_⟩
                have := fstN_not h
                rw [ha, hb] at this
                simp only [decide_eq_false_iff_not] at this
                omega
              · obtain rfl : j = pairF w L := by omega
                refine .inr ⟨rfl, ?_⟩
                have := fstN_hit (p := fun j => decide (rngF w (lg L (2 * j)) (lg L (2 * j + 1)) < rngN (lg L (2 * j)) (lg L (2 * j + 1)))) hlt
                change decide (rngF w (lg L (2 * pairF w L)) (lg L (2 * pairF w L + 1)) < rngN (lg L (2 * pairF w L)) (lg L (2 * pairF w L + 1))) = true at this
                rw [ha, hb] at this
                simpa using this
            refine arun_for (rngF w a b) (fun k => ([(0, .c (.k .u32 w)), (1, .c (.sl id 0 v L.length)), (5, .c (.i (2 * j : Nat))), (6, .c (.i (a + (k : Nat))))], H)) ?_ fun k hk => ?_
            · exact Wk.wk (by simp [lo]) (by simp [Am.get]) (by simp only [List.all_cons, List.all_nil, bs]; rfl) (subH_refl _) hH
            · by_cases hkn : k < rngN a b
              · have k1 : a + (k : Int) ≤ b := by unfold rngN at hkn; omega
                have k2 : w64 (a + (k : Int) + 1) = a + ((k + 1 : Nat) : Int) := by rw [w64_of (by omega)]; omega
                by_cases hkr : k < rngF w a b
                · have hh := fstN_not hkr
                  change hitB w (a + (k : Int)) = false at hh
                  simp only [hitB, decide_eq_false_iff_not] at hh
                  (try simp (config := { maxSteps := 10000000 }) only [go_sem, List.reduceReplicate, BitVec.reduceOfInt, BitVec.reduceToNat, BitVec.reduceToInt, BitVec.reduceEq, BitVec.reduceLT, BitVec.reduceLE, BitVec.reduceAdd, BitVec.reduceSub, BitVec.reduceMul, BitVec.reduceUDiv, BitVec.reduceUMod, BitVec.reduceAnd, BitVec.reduceOr, BitVec.reduceXOr, BitVec.reduceNot, BitVec.reduceNeg, BitVec.reduceHShiftLeft, BitVec.reduceHShiftRight, Nat.reduceAdd, Nat.reduceMul, Nat.reduceSub, Nat.reduceBEq, Nat.reduceEqDiff, Nat.reduceLeDiff, Nat.reduceLT, Int.reduceLE, Int.reduceLT, Int.reduceAdd, Int.reduceSub, Int.reduceMul, Int.reduceNeg, Int.reduceToNat, Int.reduceEq, ↓reduceIte, reduceCtorEq, s_ifixed_eq, e1, xl, q2, q3, q4, q5, q6, q7, g1, g2, g3, hv, k1, k2, hh]; repeat (simp (disch := omega) only [w64_d, ipos, ineg, dpos, dneg]; try simp (config := { maxSteps := 10000000 }) only [go_sem, List.reduceReplicate, BitVec.reduceOfInt, BitVec.reduceToNat, BitVec.reduceToInt, BitVec.reduceEq, BitVec.reduceLT, BitVec.reduceLE, BitVec.reduceAdd, BitVec.reduceSub, BitVec.reduceMul, BitVec.reduceUDiv, BitVec.reduceUMod, BitVec.reduceAnd, BitVec.reduceOr, BitVec.reduceXOr, BitVec.reduceNot, BitVec.reduceNeg, BitVec.reduceHShiftLeft, BitVec.reduceHShiftRight, Nat.reduceAdd, Nat.reduceMul, Nat.reduceSub, Nat.reduceBEq, Nat.reduceEqDiff, Nat.reduceLeDiff, Nat.reduceLT, Int.reduceLE, Int.reduceLT, Int.reduceAdd, Int.reduceSub, Int.reduceMul, Int.reduceNeg, Int.reduceToNat, Int.reduceEq, ↓reduceIte, reduceCtorEq, s_ifixed_eq, e1, xl, q2, q3, q4, q5, q6, q7, g1, g2, g3, hv, k1, k2, hh]))
                  exact ⟨k + 1, by omega, by omega, Wk.wk (by simp [lo]) (by simp [Am.get]) (by simp only [List.all_cons, List.all_nil, bs]; rfl) (subH_refl _) hH⟩
                · obtain rfl : k = rngF w a b := by omega
                  have hh := fstN_hit (p := fun k => hitB w (a + (k : Int))) hkn
                  change hitB w (a + (rngF w a b : Int)) = true at hh
                  simp only [hitB, decide_eq_true_eq] at hh
                  obtain rfl : j = pairF w L := by omega
                  have e : seekT w L = a + (rngF w a b : Int) := by unfold seekT; rw [if_pos hlt, ha, hb]
                  rw [e]
                  (try simp (config := { maxSteps := 10000000 }) only [go_sem, List.reduceReplicate, BitVec.reduceOfInt, BitVec.reduceToNat, BitVec.reduceToInt, BitVec.reduceEq, BitVec.reduceLT, BitVec.reduceLE, BitVec.reduceAdd, BitVec.reduceSub, BitVec.reduceMul, BitVec.reduceUDiv, BitVec.reduceUMod, BitVec.reduceAnd, BitVec.reduceOr, BitVec.reduceXOr, BitVec.reduceNot, BitVec.reduceNeg, BitVec.reduceHShiftLeft, BitVec.reduceHShiftRight, Nat.reduceAdd, Nat.reduceMul, Nat.reduceSub, Nat.reduceBEq, Nat.reduceEqDiff, Nat.reduceLeDiff, Nat.reduceLT, Int.reduceLE, Int.reduceLT, Int.reduceAdd, Int.reduceSub, Int.reduceMul, Int.reduceNeg, Int.reduceToNat, Int.reduceEq, ↓reduceIte, reduceCtorEq, s_ifixed_eq, e1, xl, q2, q3, q4, q5, q6, q7, g1, g2, g3, hv, k1, hh]; repeat (simp (disch := omega) only [w64_d, ipos, ineg, dpos, dneg]; try simp (config := { maxSteps := 10000000 }) only [go_sem, List.reduceReplicate, BitVec.reduceOfInt, BitVec.reduceToNat, BitVec.reduceToInt, BitVec.reduceEq, BitVec.reduceLT, BitVec.reduceLE, BitVec.reduceAdd, BitVec.reduceSub, BitVec.reduceMul, BitVec.reduceUDiv, BitVec.reduceUMod, BitVec.reduceAnd, BitVec.reduceOr, BitVec.reduceXOr, BitVec.reduceNot, BitVec.reduceNeg, BitVec.reduceHShiftLeft, BitVec.reduceHShiftRight, Nat.reduceAdd, Nat.reduceMul, Nat.reduceSub, Nat.reduceBEq, Nat.reduceEqDiff, Nat.reduceLeDiff, Nat.reduceLT, Int.reduceLE, Int.reduceLT, Int.reduceAdd, Int.reduceSub, Int.reduceMul, Int.reduceNeg, Int.reduceToNat, Int.reduceEq, ↓reduceIte, reduceCtorEq, s_ifixed_eq, e1, xl, q2, q3, q4, q5, q6, q7, g1, g2, g3, hv, k1, hh]))
                  exact subH_refl _
              · have k1 : ¬ a + (k : Int) ≤ b := by unfold rngN at hkn; omega
                have k2 : w64 (((2 * j : Nat) : Int) + 2) = ((2 * (j + 1) : Nat) : Int) := by rw [w64_of (by omega)]; omega
                (try simp (config := { maxSteps := 10000000 }) only [go_sem, List.reduceReplicate, BitVec.reduceOfInt, BitVec.reduceToNat, BitVec.reduceToInt, BitVec.reduceEq, BitVec.reduceLT, BitVec.reduceLE, BitVec.reduceAdd, BitVec.reduceSub, BitVec.reduceMul, BitVec.reduceUDiv, BitVec.reduceUMod, BitVec.reduceAnd, BitVec.reduceOr, BitVec.reduceXOr, BitVec.reduceNot, BitVec.reduceNeg, BitVec.reduceHShiftLeft, BitVec.reduceHShiftRight, Nat.reduceAdd, Nat.reduceMul, Nat.reduceSub, Nat.reduceBEq, Nat.reduceEqDiff, Nat.reduceLeDiff, Nat.reduceLT, Int.reduceLE, Int.reduceLT, Int.reduceAdd, Int.reduceSub, Int.reduceMul, Int.reduceNeg, Int.reduceToNat, Int.reduceEq, ↓reduceIte, reduceCtorEq, s_ifixed_eq, e1, xl, q2, q3, q4, q5, q6, q7, g1, g2, g3, hv, k1, k2]; repeat (simp (disch := omega) only [w64_d, ipos, ineg, dpos, dneg]; try simp (config := { maxSteps := 10000000 }) only [go_sem, List.reduceReplicate, BitVec.reduceOfInt, BitVec.reduceToNat, BitVec.reduceToInt, BitVec.reduceEq, BitVec.reduceLT, BitVec.reduceLE, BitVec.reduceAdd, BitVec.reduceSub, BitVec.reduceMul, BitVec.reduceUDiv, BitVec.reduceUMod, BitVec.reduceAnd, BitVec.reduceOr, BitVec.reduceXOr, BitVec.reduceNot, BitVec.reduceNeg, BitVec.reduceHShiftLeft, BitVec.reduceHShiftRight, Nat.reduceAdd, Nat.reduceMul, Nat.reduceSub, Nat.reduceBEq, Nat.reduceEqDiff, Nat.reduceLeDiff, Nat.reduceLT, Int.reduceLE, Int.reduceLT, Int.reduceAdd, Int.reduceSub, Int.reduceMul, Int.reduceNeg, Int.reduceToNat, Int.reduceEq, ↓reduceIte, reduceCtorEq, s_ifixed_eq, e1, xl, q2, q3, q4, q5, q6, q7, g1, g2, g3, hv, k1, k2]))
                exact ⟨j + 1, by omega, by omega, Wk.wk (by simp [lo]) (by simp [Am.get]) (by simp only [List.all_cons, List.all_nil, bs]; rfl) (subH_refl _) hH⟩
          · obtain rfl : j = pairF w L := by omega
            have q2 : ¬ ((2 * pairF w L + 1 : Nat) : Int) < (L.length : Int) := by omega
            have e : seekT w L = 0 := if_neg hlt
            rw [e]
            (try simp (config := { maxSteps := 10000000 }) only [go_sem, List.reduceReplicate, BitVec.reduceOfInt, BitVec.reduceToNat, BitVec.reduceToInt, BitVec.reduceEq, BitVec.reduceLT, BitVec.reduceLE, BitVec.reduceAdd, BitVec.reduceSub, BitVec.reduceMul, BitVec.reduceUDiv, BitVec.reduceUMod, BitVec.reduceAnd, BitVec.reduceOr, BitVec.reduceXOr, BitVec.reduceNot, BitVec.reduceNeg, BitVec.reduceHShiftLeft, BitVec.reduceHShiftRight, Nat.reduceAdd, Nat.reduceMul, Nat.reduceSub, Nat.reduceBEq, Nat.reduceEqDiff, Nat.reduceLeDiff, Nat.reduceLT, Int.reduceLE, Int.reduceLT, Int.reduceAdd, Int.reduceSub, Int.reduceMul, Int.reduceNeg, Int.reduceToNat, Int.reduceEq, ↓reduceIte, reduceCtorEq, e1, xl, q2]; repeat (simp (disch := omega) only [w64_d, ipos, ineg, dpos, dneg]; try simp (config := { maxSteps := 10000000 }) only [go_sem, List.reduceReplicate, BitVec.reduceOfInt, BitVec.reduceToNat, BitVec.reduceToInt, BitVec.reduceEq, BitVec.reduceLT, BitVec.reduceLE, BitVec.reduceAdd, BitVec.reduceSub, BitVec.reduceMul, BitVec.reduceUDiv, BitVec.reduceUMod, BitVec.reduceAnd, BitVec.reduceOr, BitVec.reduceXOr, BitVec.reduceNot, BitVec.reduceNeg, BitVec.reduceHShiftLeft, BitVec.reduceHShiftRight, Nat.reduceAdd, Nat.reduceMul, Nat.reduceSub, Nat.reduceBEq, Nat.reduceEqDiff, Nat.reduceLeDiff, Nat.reduceLT, Int.reduceLE, Int.reduceLT, Int.reduceAdd, Int.reduceSub, Int.reduceMul, Int.reduceNeg, Int.reduceToNat, Int.reduceEq, ↓reduceIte, reduceCtorEq, e1, xl, q2]))
            exact subH_refl _
      · simp at h
    · simp at h
  · simp at h
def findT (w : Int) : Int :=
  if andK w 127 = 55 then 1 else if andK w 127 = 23 then 2 else if andK w 127 = 111 then 3 else if andK w 127 = 103 then seekT w [4, 4] else if andK w 127 = 99 then seekT w [5, 10] else
  if andK w 127 = 3 then seekT w [11, 17] else if andK w 127 = 35 then seekT w [18, 21] else if andK w 127 = 19 then seekT w [22, 30] else if andK w 127 = 15 then seekT w [50, 51] else
  if andK w 127 = 47 then seekT w [67, 88] else if andK w 127 = 51 ∨ andK w 127 = 27 ∨ andK w 127 = 59 ∨ andK w 127 = 115 then seekT w [31, 66, 89, 98] else 0
theorem seek2 {w a b : Int} {H X : AH} (h : smallB [a, b] = true) : s_iseek [.c (.k .u32 w), .c (.sl H.length 0 2 2)] (H ++ .vec 1 [.i a, .i b] :: X) = some (.c (.i (seekT w [a, b]))) := by
  have e : slD 1 dcI (H ++ .vec 1 [.i a, .i b] :: X) (.sl H.length 0 2 2) = some [a, b] := by
    have g : hg (H ++ .vec 1 [.i a, .i b] :: X) H.length = .vec 1 [.i a, .i b] := hg_len
    simp [slD, g, AObj.row, AObj.cells, decN, dcI]
  simp only [s_iseek, e]
  rw [if_pos ⟨by simp, by simp, h⟩]
theorem seek4 {w a b c d : Int} {H X : AH} (h : smallB [a, b, c, d] = true) : s_iseek [.c (.k .u32 w), .c (.sl H.length 0 4 4)] (H ++ .vec 1 [.i a, .i b, .i c, .i d] :: X) = some (.c (.i (seekT w [a, b, c, d]))) := by
  have e : slD 1 dcI (H ++ .vec 1 [.i a, .i b, .i c, .i d] :: X) (.sl H.length 0 4 4) = some [a, b, c, d] := by
    have g : hg (H ++ .vec 1 [.i a, .i b, .i c, .i d] :: X) H.length = .vec 1 [.i a, .i b, .i c, .i d] := hg_len
    simp [slD, g, AObj.row, AObj.cells, decN, dcI]
  simp only [s_iseek, e]
  rw [if_pos ⟨by simp, by simp, h⟩]
def s_ifind (args : List AV) : Option AV :=
  match args with
  | [.c (.k .u32 w)] => some (.c (.i (findT w)))
  | _ => none
theorem s_ifind_eq {w} : s_ifind [.c (.k .u32 w)] = some (.c (.i (findT w))) := rfl
set_option maxRecDepth 100000 in
set_option maxHeartbeats 2000000 in
theorem ok_ifind : PuOk Try.prog 24 s_ifind := by
  refine pu_ok (tab := [(44, .fq s_iseek)]) hmix (TabOk.cons (e := .fq s_iseek) ok_iseek TabOk.nil) Try.func24 rfl Try.results24 Try.ntmps24 (by kernel_rfl) (by kernel_rfl) ?_
  intro args v h
  unfold s_ifind at h
  split at h
  · rename_i w
    simp only [Option.some.injEq] at h; subst h
    refine ⟨by simp only [List.length_cons, List.length_nil]; decide, rfl, rfl, ?_⟩
    have q2 : ∀ a b X, smallB [a, b] = true → s_iseek [.c (.k .u32 w), .c (.sl 0 0 2 2)] (.vec 1 [.i a, .i b] :: X) = some (.c (.i (seekT w [a, b]))) := fun a b X h => seek2 (H := []) h
    have q4 : ∀ a b c d X, smallB [a, b, c, d] = true → s_iseek [.c (.k .u32 w), .c (.sl 0 0 4 4)] (.vec 1 [.i a, .i b, .i c, .i d] :: X) = some (.c (.i (seekT w [a, b, c, d]))) := fun a b c d X h => seek4 (H := []) h
    have p1 : smallB [4, 4] = true ∧ smallB [5, 10] = true ∧ smallB [11, 17] = true ∧ smallB [18, 21] = true ∧ smallB [22, 30] = true ∧ smallB [50, 51] = true ∧ smallB [67, 88] = true ∧ smallB [31, 66, 89, 98] = true := by decide
    obtain ⟨p1, p2, p3, p4, p5, p6, p7, p8⟩ := p1
    (try simp (config := { maxSteps := 10000000 }) only [go_sem, List.reduceReplicate, BitVec.reduceOfInt, BitVec.reduceToNat, BitVec.reduceToInt, BitVec.reduceEq, BitVec.reduceLT, BitVec.reduceLE, BitVec.reduceAdd, BitVec.reduceSub, BitVec.reduceMul, BitVec.reduceUDiv, BitVec.reduceUMod, BitVec.reduceAnd, BitVec.reduceOr, BitVec.reduceXOr, BitVec.reduceNot, BitVec.reduceNeg, BitVec.reduceHShiftLeft, BitVec.reduceHShiftRight, Nat.reduceAdd, Nat.reduceMul, Nat.reduceSub, Nat.reduceBEq, Nat.reduceEqDiff, Nat.reduceLeDiff, Nat.reduceLT, Int.reduceLE, Int.reduceLT, Int.reduceAdd, Int.reduceSub, Int.reduceMul, Int.reduceNeg, Int.reduceToNat, Int.reduceEq, ↓reduceIte, reduceCtorEq]; repeat (simp (disch := omega) only [w64_d, ipos, ineg, dpos, dneg]; try simp (config := { maxSteps := 10000000 }) only [go_sem, List.reduceReplicate, BitVec.reduceOfInt, BitVec.reduceToNat, BitVec.reduceToInt, BitVec.reduceEq, BitVec.reduceLT, BitVec.reduceLE, BitVec.reduceAdd, BitVec.reduceSub, BitVec.reduceMul, BitVec.reduceUDiv, BitVec.reduceUMod, BitVec.reduceAnd, BitVec.reduceOr, BitVec.reduceXOr, BitVec.reduceNot, BitVec.reduceNeg, BitVec.reduceHShiftLeft, BitVec.reduceHShiftRight, Nat.reduceAdd, Nat.reduceMul, Nat.reduceSub, Nat.reduceBEq, Nat.reduceEqDiff, Nat.reduceLeDiff, Nat.reduceLT, Int.reduceLE, Int.reduceLT, Int.reduceAdd, Int.reduceSub, Int.reduceMul, Int.reduceNeg, Int.reduceToNat, Int.reduceEq, ↓reduceIte, reduceCtorEq]))
    generalize hm : andK w 127 = m
    repeat' (first
      | (refine cnd_by (fun h => ?_) (fun h => ?_) <;> (try simp only [decide_eq_true_eq, decide_eq_false_iff_not, Bool.not_eq_true', Bool.not_eq_false', Bool.not_eq_true, Bool.not_eq_false, Bool.and_eq_true, beq_iff_eq, beq_eq_false_iff_ne, ne_eq, Bool.or_eq_true] at h) <;> ((try simp (config := { maxSteps := 10000000 }) only [go_sem, List.reduceReplicate, BitVec.reduceOfInt, BitVec.reduceToNat, BitVec.reduceToInt, BitVec.reduceEq, BitVec.reduceLT, BitVec.reduceLE, BitVec.reduceAdd, BitVec.reduceSub, BitVec.reduceMul, BitVec.reduceUDiv, BitVec.reduceUMod, BitVec.reduceAnd, BitVec.reduceOr, BitVec.reduceXOr, BitVec.reduceNot, BitVec.reduceNeg, BitVec.reduceHShiftLeft, BitVec.reduceHShiftRight, Nat.reduceAdd, Nat.reduceMul, Nat.reduceSub, Nat.reduceBEq, Nat.reduceEqDiff, Nat.reduceLeDiff, Nat.reduceLT, Int.reduceLE, Int.reduceLT, Int.reduceAdd, Int.reduceSub, Int.reduceMul, Int.reduceNeg, Int.reduceToNat, Int.reduceEq, ↓reduceIte, reduceCtorEq, q2, q4, p1, p2, p3, p4, p5, p6, p7, p8, h]; repeat (simp (disch := omega) only [w64_d, ipos, ineg, dpos, dneg]; try simp (config := { maxSteps := 10000000 }) only [go_sem, List.reduceReplicate, BitVec.reduceOfInt, BitVec.reduceToNat, BitVec.reduceToInt, BitVec.reduceEq, BitVec.reduceLT, BitVec.reduceLE, BitVec.reduceAdd, BitVec.reduceSub, BitVec.reduceMul, BitVec.reduceUDiv, BitVec.reduceUMod, BitVec.reduceAnd, BitVec.reduceOr, BitVec.reduceXOr, BitVec.reduceNot, BitVec.reduceNeg, BitVec.reduceHShiftLeft, BitVec.reduceHShiftRight, Nat.reduceAdd, Nat.reduceMul, Nat.reduceSub, Nat.reduceBEq, Nat.reduceEqDiff, Nat.reduceLeDiff, Nat.reduceLT, Int.reduceLE, Int.reduceLT, Int.reduceAdd, Int.reduceSub, Int.reduceMul, Int.reduceNeg, Int.reduceToNat, Int.reduceEq, ↓reduceIte, reduceCtorEq, q2, q4, p1, p2, p3, p4, p5, p6, p7, p8, h]))))
      | (refine grd_by (fun h => ?_) (fun h => ?_) <;> (try simp only [decide_eq_true_eq, decide_eq_false_iff_not, Bool.not_eq_true', Bool.not_eq_false', Bool.not_eq_true, Bool.not_eq_false, Bool.and_eq_true, beq_iff_eq, beq_eq_false_iff_ne, ne_eq, Bool.or_eq_true] at h) <;> ((try simp (config := { maxSteps := 10000000 }) only [go_sem, List.reduceReplicate, BitVec.reduceOfInt, BitVec.reduceToNat, BitVec.reduceToInt, BitVec.reduceEq, BitVec.reduceLT, BitVec.reduceLE, BitVec.reduceAdd, BitVec.reduceSub, BitVec.reduceMul, BitVec.reduceUDiv, BitVec.reduceUMod, BitVec.reduceAnd, BitVec.reduceOr, BitVec.reduceXOr, BitVec.reduceNot, BitVec.reduceNeg, BitVec.reduceHShiftLeft, BitVec.reduceHShiftRight, Nat.reduceAdd, Nat.reduceMul, Nat.reduceSub, Nat.reduceBEq, Nat.reduceEqDiff, Nat.reduceLeDiff, Nat.reduceLT, Int.reduceLE, Int.reduceLT, Int.reduceAdd, Int.reduceSub, Int.reduceMul, Int.reduceNeg, Int.reduceToNat, Int.reduceEq, ↓reduceIte, reduceCtorEq, q2, q4, p1, p2, p3, p4, p5, p6, p7, p8, h]; repeat (simp (disch := omega) only [w64_d, ipos, ineg, dpos, dneg]; try simp (config := { maxSteps := 10000000 }) only [go_sem, List.reduceReplicate, BitVec.reduceOfInt, BitVec.reduceToNat, BitVec.reduceToInt, BitVec.reduceEq, BitVec.reduceLT, BitVec.reduceLE, BitVec.reduceAdd, BitVec.reduceSub, BitVec.reduceMul, BitVec.reduceUDiv, BitVec.reduceUMod, BitVec.reduceAnd, BitVec.reduceOr, BitVec.reduceXOr, BitVec.reduceNot, BitVec.reduceNeg, BitVec.reduceHShiftLeft, BitVec.reduceHShiftRight, Nat.reduceAdd, Nat.reduceMul, Nat.reduceSub, Nat.reduceBEq, Nat.reduceEqDiff, Nat.reduceLeDiff, Nat.reduceLT, Int.reduceLE, Int.reduceLT, Int.reduceAdd, Int.reduceSub, Int.reduceMul, Int.reduceNeg, Int.reduceToNat, Int.reduceEq, ↓reduceIte, reduceCtorEq, q2, q4, p1, p2, p3, p4, p5, p6, p7, p8, h]))))
      | (refine grdd_by (fun h => ?_) (fun h => ?_) <;> (try simp only [decide_eq_true_eq, decide_eq_false_iff_not, Bool.not_eq_true', Bool.not_eq_false', Bool.not_eq_true, Bool.not_eq_false, Bool.and_eq_true, beq_iff_eq, beq_eq_false_iff_ne, ne_eq, Bool.or_eq_true] at h) <;> ((try simp (config := { maxSteps := 10000000 }) only [go_sem, List.reduceReplicate, BitVec.reduceOfInt, BitVec.reduceToNat, BitVec.reduceToInt, BitVec.reduceEq, BitVec.reduceLT, BitVec.reduceLE, BitVec.reduceAdd, BitVec.reduceSub, BitVec.reduceMul, BitVec.reduceUDiv, BitVec.reduceUMod, BitVec.reduceAnd, BitVec.reduceOr, BitVec.reduceXOr, BitVec.reduceNot, BitVec.reduceNeg, BitVec.reduceHShiftLeft, BitVec.reduceHShiftRight, Nat.reduceAdd, Nat.reduceMul, Nat.reduceSub, Nat.reduceBEq, Nat.reduceEqDiff, Nat.reduceLeDiff, Nat.reduceLT, Int.reduceLE, Int.reduceLT, Int.reduceAdd, Int.reduceSub, Int.reduceMul, Int.reduceNeg, Int.reduceToNat, Int.reduceEq, ↓reduceIte, reduceCtorEq, q2, q4, p1, p2, p3, p4, p5, p6, p7, p8, h]; repeat (simp (disch := omega) only [w64_d, ipos, ineg, dpos, dneg]; try simp (config := { maxSteps := 10000000 }) only [go_sem, List.reduceReplicate, BitVec.reduceOfInt, BitVec.reduceToNat, BitVec.reduceToInt, BitVec.reduceEq, BitVec.reduceLT, BitVec.reduceLE, BitVec.reduceAdd, BitVec.reduceSub, BitVec.reduceMul, BitVec.reduceUDiv, BitVec.reduceUMod, BitVec.reduceAnd, BitVec.reduceOr, BitVec.reduceXOr, BitVec.reduceNot, BitVec.reduceNeg, BitVec.reduceHShiftLeft, BitVec.reduceHShiftRight, Nat.reduceAdd, Nat.reduceMul, Nat.reduceSub, Nat.reduceBEq, Nat.reduceEqDiff, Nat.reduceLeDiff, Nat.reduceLT, Int.reduceLE, Int.reduceLT, Int.reduceAdd, Int.reduceSub, Int.reduceMul, Int.reduceNeg, Int.reduceToNat, Int.reduceEq, ↓reduceIte, reduceCtorEq, q2, q4, p1, p2, p3, p4, p5, p6, p7, p8, h])))))
    all_goals simp [findT, hm, *]
  · simp at h
end
end Go.Proofs.Ytcfnfdafcfpohaa
