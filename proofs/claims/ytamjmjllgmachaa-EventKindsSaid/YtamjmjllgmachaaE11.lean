/- The law EventKinds. -/
import Derived.Test.YtamjmjllgmachaaE10
namespace Go.Proofs.Ytamjmjllgmachaa
open Go.Am
set_option linter.unusedSimpArgs false
set_option linter.unusedVariables false
noncomputable section

/-! ### names -/
theorem enameS_n {j : Nat} (h : j < 20) : enameS ((j : Int) + 1) = enm (j + 1) := by
  unfold enameS
  rw [if_pos (by simp [knownB]; omega)]
  congr 1
def nameK (s : ByteArray) : Nat := fsN (fun j => decide (enm (j + 1) = s)) 20
def findK (s : ByteArray) : Int := if nameK s < 20 then (nameK s : Int) + 1 else 0
def s_efind (args : List AV) : Option AV :=
  match args with
  | [.c (.s s)] => some (.t [.c (.i (findK s)), .c (.b (decide (nameK s < 20)))])
  | _ => none
theorem s_efind_eq {s} : s_efind [.c (.s s)] = some (.t [.c (.i (findK s)), .c (.b (decide (nameK s < 20)))]) := rfl
set_option maxRecDepth 100000 in
set_option maxHeartbeats 2000000 in
theorem ok_efind : PuOk Try.prog 17 s_efind := by
  refine pu_ok (tab := [(18, .pu s_ename)]) hmix (TabOk.cons (e := .pu s_ename) ok_ename TabOk.nil) Try.func17 rfl Try.results17 Try.ntmps17 (by kernel_rfl) (by kernel_rfl) ?_
  intro args v h
  unfold s_efind at h
  split at h
  · rename_i s
    simp only [Option.some.injEq] at h; subst h
    refine ⟨by simp only [List.length_cons, List.length_nil]; decide, rfl, rfl, ?_⟩
    have kle := fsN_le (fun j => decide (enm (j + 1) = s)) 20
    have knot := fun k h => fsN_not (p := fun j => decide (enm (j + 1) = s)) (n := 20) (k := k) h
    have khit := fsN_hit (p := fun j => decide (enm (j + 1) = s)) (n := 20)
    unfold findK nameK
    generalize fsN (fun j => decide (enm (j + 1) = s)) 20 = K at *
    (try simp (config := { maxSteps := 10000000 }) only [go_sem, List.reduceReplicate, BitVec.reduceOfInt, BitVec.reduceToNat, BitVec.reduceToInt, BitVec.reduceEq, BitVec.reduceLT, BitVec.reduceLE, BitVec.reduceAdd, BitVec.reduceSub, BitVec.reduceMul, BitVec.reduceUDiv, BitVec.reduceUMod, BitVec.reduceAnd, BitVec.reduceOr, BitVec.reduceXOr, BitVec.reduceNot, BitVec.reduceNeg, BitVec.reduceHShiftLeft, BitVec.reduceHShiftRight, Nat.reduceAdd, Nat.reduceMul, Nat.reduceSub, Nat.reduceBEq, Nat.reduceEqDiff, Nat.reduceLeDiff, Nat.reduceLT, Int.reduceLE, Int.reduceLT, Int.reduceAdd, Int.reduceSub, Int.reduceMul, Int.reduceNeg, Int.reduceToNat, Int.reduceEq, ↓reduceIte, reduceCtorEq]; repeat (simp (disch := omega) only [w64_d, ipos, ineg, dpos, dneg]; try simp (config := { maxSteps := 10000000 }) only [go_sem, List.reduceReplicate, BitVec.reduceOfInt, BitVec.reduceToNat, BitVec.reduceToInt, BitVec.reduceEq, BitVec.reduceLT, BitVec.reduceLE, BitVec.reduceAdd, BitVec.reduceSub, BitVec.reduceMul, BitVec.reduceUDiv, BitVec.reduceUMod, BitVec.reduceAnd, BitVec.reduceOr, BitVec.reduceXOr, BitVec.reduceNot, BitVec.reduceNeg, BitVec.reduceHShiftLeft, BitVec.reduceHShiftRight, Nat.reduceAdd, Nat.reduceMul, Nat.reduceSub, Nat.reduceBEq, Nat.reduceEqDiff, Nat.reduceLeDiff, Nat.reduceLT, Int.reduceLE, Int.reduceLT, Int.reduceAdd, Int.reduceSub, Int.reduceMul, Int.reduceNeg, Int.reduceToNat, Int.reduceEq, ↓reduceIte, reduceCtorEq]))
    refine arun_for K (fun j => ([(0, .c (.s s)), (4, .c (.i (j + 1 : Nat)))], [])) ?_ fun j hj => ?_
    · exact Wk.wk (Nat.zero_le _) (by simp [Am.get]) (by rfl) trivial (by rfl)
    · have e1 : w64 (((j + 1 : Nat) : Int) + 1) = ((j + 2 : Nat) : Int) := by rw [w64_d (by omega) (by omega)]; omega
      by_cases h20 : j < 20
      · have e0 : ((j + 1 : Nat) : Int) ≤ 20 := by omega
        have en := enameS_n h20
        rw [show ((j : Int) + 1) = ((j + 1 : Nat) : Int) by omega] at en
        by_cases hjK : j < K
        · have hn := knot j hjK
          simp only [decide_eq_false_iff_not] at hn
          (try simp (config := { maxSteps := 10000000 }) only [go_sem, List.reduceReplicate, BitVec.reduceOfInt, BitVec.reduceToNat, BitVec.reduceToInt, BitVec.reduceEq, BitVec.reduceLT, BitVec.reduceLE, BitVec.reduceAdd, BitVec.reduceSub, BitVec.reduceMul, BitVec.reduceUDiv, BitVec.reduceUMod, BitVec.reduceAnd, BitVec.reduceOr, BitVec.reduceXOr, BitVec.reduceNot, BitVec.reduceNeg, BitVec.reduceHShiftLeft, BitVec.reduceHShiftRight, Nat.reduceAdd, Nat.reduceMul, Nat.reduceSub, Nat.reduceBEq, Nat.reduceEqDiff, Nat.reduceLeDiff, Nat.reduceLT, Int.reduceLE, Int.reduceLT, Int.reduceAdd, Int.reduceSub, Int.reduceMul, Int.reduceNeg, Int.reduceToNat, Int.reduceEq, ↓reduceIte, reduceCtorEq, s_ename_eq, e0, en, hn, e1]; repeat (simp (disch := omega) only [w64_d, ipos, ineg, dpos, dneg]; try simp (config := { maxSteps := 10000000 }) only [go_sem, List.reduceReplicate, BitVec.reduceOfInt, BitVec.reduceToNat, BitVec.reduceToInt, BitVec.reduceEq, BitVec.reduceLT, BitVec.reduceLE, BitVec.reduceAdd, BitVec.reduceSub, BitVec.reduceMul, BitVec.reduceUDiv, BitVec.reduceUMod, BitVec.reduceAnd, BitVec.reduceOr, BitVec.reduceXOr, BitVec.reduceNot, BitVec.reduceNeg, BitVec.reduceHShiftLeft, BitVec.reduceHShiftRight, Nat.reduceAdd, Nat.reduceMul, Nat.reduceSub, Nat.reduceBEq, Nat.reduceEqDiff, Nat.reduceLeDiff, Nat.reduceLT, Int.reduceLE, Int.reduceLT, Int.reduceAdd, Int.reduceSub, Int.reduceMul, Int.reduceNeg, Int.reduceToNat, Int.reduceEq, ↓reduceIte, reduceCtorEq, s_ename_eq, e0, en, hn, e1]))
          exact ⟨j + 1, by omega, by omega, Wk.wk (Nat.zero_le _) (by simp [Am.get]; omega) (by rfl) trivial (by rfl)⟩
        · obtain rfl : j = K := by omega
          have hn := khit h20
          simp only [decide_eq_true_eq] at hn
          have hn' := eq_true hn
          have e3 : ((j + 1 : Nat) : Int) = (j : Int) + 1 := by omega
          (try simp (config := { maxSteps := 10000000 }) only [go_sem, List.reduceReplicate, BitVec.reduceOfInt, BitVec.reduceToNat, BitVec.reduceToInt, BitVec.reduceEq, BitVec.reduceLT, BitVec.reduceLE, BitVec.reduceAdd, BitVec.reduceSub, BitVec.reduceMul, BitVec.reduceUDiv, BitVec.reduceUMod, BitVec.reduceAnd, BitVec.reduceOr, BitVec.reduceXOr, BitVec.reduceNot, BitVec.reduceNeg, BitVec.reduceHShiftLeft, BitVec.reduceHShiftRight, Nat.reduceAdd, Nat.reduceMul, Nat.reduceSub, Nat.reduceBEq, Nat.reduceEqDiff, Nat.reduceLeDiff, Nat.reduceLT, Int.reduceLE, Int.reduceLT, Int.reduceAdd, Int.reduceSub, Int.reduceMul, Int.reduceNeg, Int.reduceToNat, Int.reduceEq, ↓reduceIte, reduceCtorEq, s_ename_eq, e0, en, hn', h20]; repeat (simp (disch := omega) only [w64_d, ipos, ineg, dpos, dneg]; try simp (config := { maxSteps := 10000000 }) only [go_sem, List.reduceReplicate, BitVec.reduceOfInt, BitVec.reduceToNat, BitVec.reduceToInt, BitVec.reduceEq, BitVec.reduceLT, BitVec.reduceLE, BitVec.reduceAdd, BitVec.reduceSub, BitVec.reduceMul, BitVec.reduceUDiv, BitVec.reduceUMod, BitVec.reduceAnd, BitVec.reduceOr, BitVec.reduceXOr, BitVec.reduceNot, BitVec.reduceNeg, BitVec.reduceHShiftLeft, BitVec.reduceHShiftRight, Nat.reduceAdd, Nat.reduceMul, Nat.reduceSub, Nat.reduceBEq, Nat.reduceEqDiff, Nat.reduceLeDiff, Nat.reduceLT, Int.reduceLE, Int.reduceLT, Int.reduceAdd, Int.reduceSub, Int.reduceMul, Int.reduceNeg, Int.reduceToNat, Int.reduceEq, ↓reduceIte, reduceCtorEq, s_ename_eq, e0, en, hn', h20]))
          rw [e3]
      · obtain rfl : j = 20 := by omega
        obtain rfl : K = 20 := by omega
        (try simp (config := { maxSteps := 10000000 }) only [go_sem, List.reduceReplicate, BitVec.reduceOfInt, BitVec.reduceToNat, BitVec.reduceToInt, BitVec.reduceEq, BitVec.reduceLT, BitVec.reduceLE, BitVec.reduceAdd, BitVec.reduceSub, BitVec.reduceMul, BitVec.reduceUDiv, BitVec.reduceUMod, BitVec.reduceAnd, BitVec.reduceOr, BitVec.reduceXOr, BitVec.reduceNot, BitVec.reduceNeg, BitVec.reduceHShiftLeft, BitVec.reduceHShiftRight, Nat.reduceAdd, Nat.reduceMul, Nat.reduceSub, Nat.reduceBEq, Nat.reduceEqDiff, Nat.reduceLeDiff, Nat.reduceLT, Int.reduceLE, Int.reduceLT, Int.reduceAdd, Int.reduceSub, Int.reduceMul, Int.reduceNeg, Int.reduceToNat, Int.reduceEq, ↓reduceIte, reduceCtorEq]; repeat (simp (disch := omega) only [w64_d, ipos, ineg, dpos, dneg]; try simp (config := { maxSteps := 10000000 }) only [go_sem, List.reduceReplicate, BitVec.reduceOfInt, BitVec.reduceToNat, BitVec.reduceToInt, BitVec.reduceEq, BitVec.reduceLT, BitVec.reduceLE, BitVec.reduceAdd, BitVec.reduceSub, BitVec.reduceMul, BitVec.reduceUDiv, BitVec.reduceUMod, BitVec.reduceAnd, BitVec.reduceOr, BitVec.reduceXOr, BitVec.reduceNot, BitVec.reduceNeg, BitVec.reduceHShiftLeft, BitVec.reduceHShiftRight, Nat.reduceAdd, Nat.reduceMul, Nat.reduceSub, Nat.reduceBEq, Nat.reduceEqDiff, Nat.reduceLeDiff, Nat.reduceLT, Int.reduceLE, Int.reduceLT, Int.reduceAdd, Int.reduceSub, Int.reduceMul, Int.reduceNeg, Int.reduceToNat, Int.reduceEq, ↓reduceIte, reduceCtorEq]))
  · simp at h
def nm21 : List Sc := enmL.take 21
theorem nm21_len : nm21.length = 21 := rfl
theorem nm21_get {k : Nat} (h : k < 21) : nm21.getD k .any = .s (enm k) := by
  unfold nm21
  rw [List.getD_eq_getElem?_getD, List.getElem?_take_of_lt h, ← List.getD_eq_getElem?_getD, enmL_get (by omega)]
def s_rnames31 (args : List AV) (H : AH) : Option (AV × AH) :=
  match args with
  | [] => some (.c (.sl H.length 0 21 21), H ++ [.vec 1 nm21])
  | _ => none
theorem s_rnames31_eq {H : AH} : s_rnames31 [] H = some (.c (.sl H.length 0 21 21), H ++ [.vec 1 nm21]) := rfl
theorem len_rnames31 (args : List AV) (H : AH) (v : AV) (H1 : AH) (h : s_rnames31 args H = some (v, H1)) : H.length ≤ H1.length := by
  unfold s_rnames31 at h
  split at h
  · simp at h; rw [← h.2]; simp
  · simp at h
theorem nm21_bel (n : Nat) : nm21.all (Sc.bel n) = true := pf_bel n (by decide)
set_option maxRecDepth 100000 in
set_option maxRecDepth 100000 in
set_option maxHeartbeats 2000000 in
theorem ok_rnames31 : FpOk Try.prog 16 s_rnames31 := by
  refine fp_ok (s := s_rnames31) (tab := []) hmix TabOk.nil Try.func16 rfl Try.results16 Try.ntmps16 (by kernel_rfl) (by kernel_rfl) len_rnames31 ?_
  intro args H v H1 h hargs hH
  unfold s_rnames31 at h
  split at h
  · simp only [Option.some.injEq, Prod.mk.injEq] at h
    obtain ⟨rfl, rfl⟩ := h
    refine ⟨by simp only [List.length_nil]; decide, ?_⟩
    (try simp (config := { maxSteps := 10000000 }) only [go_sem, List.reduceReplicate, BitVec.reduceOfInt, BitVec.reduceToNat, BitVec.reduceToInt, BitVec.reduceEq, BitVec.reduceLT, BitVec.reduceLE, BitVec.reduceAdd, BitVec.reduceSub, BitVec.reduceMul, BitVec.reduceUDiv, BitVec.reduceUMod, BitVec.reduceAnd, BitVec.reduceOr, BitVec.reduceXOr, BitVec.reduceNot, BitVec.reduceNeg, BitVec.reduceHShiftLeft, BitVec.reduceHShiftRight, Nat.reduceAdd, Nat.reduceMul, Nat.reduceSub, Nat.reduceBEq, Nat.reduceEqDiff, Nat.reduceLeDiff, Nat.reduceLT, Int.reduceLE, Int.reduceLT, Int.reduceAdd, Int.reduceSub, Int.reduceMul, Int.reduceNeg, Int.reduceToNat, Int.reduceEq, ↓reduceIte, reduceCtorEq]; repeat (simp (disch := omega) only [w64_d, ipos, ineg, dpos, dneg]; try simp (config := { maxSteps := 10000000 }) only [go_sem, List.reduceReplicate, BitVec.reduceOfInt, BitVec.reduceToNat, BitVec.reduceToInt, BitVec.reduceEq, BitVec.reduceLT, BitVec.reduceLE, BitVec.reduceAdd, BitVec.reduceSub, BitVec.reduceMul, BitVec.reduceUDiv, BitVec.reduceUMod, BitVec.reduceAnd, BitVec.reduceOr, BitVec.reduceXOr, BitVec.reduceNot, BitVec.reduceNeg, BitVec.reduceHShiftLeft, BitVec.reduceHShiftRight, Nat.reduceAdd, Nat.reduceMul, Nat.reduceSub, Nat.reduceBEq, Nat.reduceEqDiff, Nat.reduceLeDiff, Nat.reduceLT, Int.reduceLE, Int.reduceLT, Int.reduceAdd, Int.reduceSub, Int.reduceMul, Int.reduceNeg, Int.reduceToNat, Int.reduceEq, ↓reduceIte, reduceCtorEq]))
    exact fin_fp (by simp [AV.bel, Sc.bel]) (subH_refl _) (belH_app hH (by simp only [List.mem_singleton, forall_eq]; exact nm21_bel _)) (by simp)
  · simp at h
/-- the last one with the name, of the first -/
def lastK (s : ByteArray) : Nat → Int
  | 0 => 0
  | k + 1 => if enm (k + 1) = s then (k : Int) + 1 else lastK s k
theorem enm_inj : ∀ i j : Nat, i < 20 → j < 20 → enm (i + 1) = enm (j + 1) → i = j := by
  have h : ∀ i : Nat, i < 20 → ∀ j : Nat, j < 20 → enmB.getD (i + 1) [] = enmB.getD (j + 1) [] → i = j := by decide +kernel
  intro i j hi hj e
  refine h i hi j hj ?_
  unfold enm at e
  injection e with e
  simpa using e
theorem lastK_eq {s : ByteArray} : lastK s 20 = findK s := by
  have knot := fun k h => fsN_not (p := fun j => decide (enm (j + 1) = s)) (n := 20) (k := k) h
  have khit := fsN_hit (p := fun j => decide (enm (j + 1) = s)) (n := 20)
  have kle := fsN_le (fun j => decide (enm (j + 1) = s)) 20
  unfold findK nameK
  generalize fsN (fun j => decide (enm (j + 1) = s)) 20 = K at *
  have key : ∀ k, k ≤ 20 → lastK s k = if K < k then (K : Int) + 1 else 0 := by
    intro k
    induction k with
    | zero => intro _; rfl
    | succ k ih =>
      intro hk
      simp only [lastK]
      by_cases he : enm (k + 1) = s
      · rw [if_pos he]
        have : K = k := by
          rcases Nat.lt_trichotomy K k with h | h | h
          · have h1 := khit (by omega)
            simp only [decide_eq_true_eq] at h1
            exact enm_inj K k (by omega) (by omega) (h1.trans he.symm)
          · exact h
          · have h1 := knot k h
            simp only [decide_eq_false_iff_not] at h1
            exact (h1 he).elim
        rw [this, if_pos (by omega)]
      · rw [if_neg he, ih (by omega)]
        by_cases hK : K < k
        · rw [if_pos hK, if_pos (by omega)]
        · rw [if_neg hK, if_neg]
          intro h
          have : K = k := by omega
          have h1 := khit (by omega)
          simp only [decide_eq_true_eq] at h1
          exact he (this ▸ h1)
  exact key 20 (Nat.le_refl _)
theorem lines_same {k : Int} {a b : BitVec 64} {c s : Int} (h : isL k c s = true) : ddp (srt ltU (linL a b c s)) = setB (byteU a b c) s.toNat := by
  simp only [isL, Bool.and_eq_true] at h
  refine sort_fold linU fun y => ?_
  unfold linL linB
  rw [← byL_acc h.2]
  exact byL_lines
def isA (l : List Sc) : Prop := L2 FitK l ksAsk
instance (l : List Sc) : Decidable (isA l) := Classical.propDecidable _
theorem isA_19 {l : List Sc} (h : isA l) : l.length = 19 := by rw [L2.length h]; rfl
set_option maxHeartbeats 4000000 in
def s_ekinds (args : List AV) : Option AV :=
  match args with
  | [.c (.i kk), .g ask, .c (.s s)] => if inR kk ∧ isA ask then some (.c (.b true)) else none
  | _ => none
theorem s_ekinds_eq {kk ask s} : s_ekinds [.c (.i kk), .g ask, .c (.s s)] = if inR kk ∧ isA ask then some (.c (.b true)) else none := rfl
set_option maxRecDepth 100000 in
set_option maxHeartbeats 2000000 in
theorem ok_ekinds : PuOk Try.prog 5 s_ekinds := by
  refine pu_ok (tab := [(6, .pu s_elive), (16, .fp s_rnames31), (17, .pu s_efind), (18, .pu s_ename), (19, .pu s_egroup), (20, .pu s_rgroup31), (21, .fp s_elines), (22, .fp s_rlines)]) hmix (TabOk.cons (e := .pu s_elive) ok_elive (TabOk.cons (e := .fp s_rnames31) ok_rnames31 (TabOk.cons (e := .pu s_efind) ok_efind (TabOk.cons (e := .pu s_ename) ok_ename (TabOk.cons (e := .pu s_egroup) ok_egroup (TabOk.cons (e := .pu s_rgroup31) ok_rgroup31 (TabOk.cons (e := .fp s_elines) ok_elines (TabOk.cons (e := .fp s_rlines) ok_rlines TabOk.nil)))))))) Try.func5 rfl Try.results5 Try.ntmps5 (by kernel_rfl) (by kernel_rfl) ?_
  intro args v h
  unfold s_ekinds at h
  split at h
  · rename_i kk ask s
    split at h
    · rename_i hc
      simp only [Option.some.injEq] at h; subst h
      have pa := (fit_all hc.2).2.1
      refine ⟨by simp only [List.length_cons, List.length_nil]; decide, by first | rfl | simp only [List.all_cons, List.all_nil, AV.pf, Sc.pf, Bool.and_true, *], by first | rfl | simp only [List.all_cons, List.all_nil, AV.pf, Sc.pf, Bool.and_true, *], ?_⟩
      obtain ⟨hkk, hask⟩ := hc
      obtain ⟨k, a, b, c, sz, r, rfl, lr, pr⟩ := ask_of hask
      have rt : r.take 14 = r := List.take_of_length_le (by omega)
      have br : ∀ n, r.all (Sc.bel n) = true := fun n => pf_bel n pr
      have hR : isR r := ⟨lr, pr⟩
      by_cases hs : s.size ≤ 30
      · have s0 : ¬ (30 : Int) < (s.size : Int) := by omega
        have f0 : lastK s 20 = findK s := lastK_eq
        have f1 : decide (0 < findK s) = decide (nameK s < 20) := by
          unfold findK
          split
          · rw [decide_eq_true (by omega), decide_eq_true ‹_›]
          · rw [decide_eq_false (by omega), decide_eq_false ‹_›]
        have hw : (0 < kk ∧ kk < 21 ∧ nm21.getD kk.toNat .any = .s (enameS kk)) ∨ (¬ 0 < kk ∧ enameS kk = ⟨#[]⟩) ∨ (0 < kk ∧ ¬ kk < 21 ∧ enameS kk = ⟨#[]⟩) := by
          by_cases h1 : 0 < kk
          · by_cases h2 : kk < 21
            · refine .inl ⟨h1, h2, ?_⟩
              rw [nm21_get (by omega)]
              have := enameS_n (j := kk.toNat - 1) (by omega)
              rw [show ((kk.toNat - 1 : Nat) : Int) + 1 = kk by omega, show kk.toNat - 1 + 1 = kk.toNat by omega] at this
              rw [this]
            · refine .inr (.inr ⟨h1, h2, ?_⟩)
              unfold enameS; rw [if_neg (by simp [knownB]; omega)]
          · refine .inr (.inl ⟨h1, ?_⟩)
            unfold enameS; rw [if_neg (by simp [knownB]; omega)]
        have e1 : ∀ j : Nat, j < 100 → w64 ((j : Int) + 1) = ((j + 1 : Nat) : Int) := fun j hj => by rw [w64_d (by omega) (by omega)]; omega
        rcases hw with ⟨h1, h2, hW⟩ | ⟨h1, hW⟩ | ⟨h1, h2, hW⟩
        · have k1 : kk.toNat + 1 ≤ 21 := by omega
          have k0 : 0 ≤ kk := by omega
          (try simp (config := { maxSteps := 10000000 }) only [go_sem, List.reduceReplicate, BitVec.reduceOfInt, BitVec.reduceToNat, BitVec.reduceToInt, BitVec.reduceEq, BitVec.reduceLT, BitVec.reduceLE, BitVec.reduceAdd, BitVec.reduceSub, BitVec.reduceMul, BitVec.reduceUDiv, BitVec.reduceUMod, BitVec.reduceAnd, BitVec.reduceOr, BitVec.reduceXOr, BitVec.reduceNot, BitVec.reduceNeg, BitVec.reduceHShiftLeft, BitVec.reduceHShiftRight, Nat.reduceAdd, Nat.reduceMul, Nat.reduceSub, Nat.reduceBEq, Nat.reduceEqDiff, Nat.reduceLeDiff, Nat.reduceLT, Int.reduceLE, Int.reduceLT, Int.reduceAdd, Int.reduceSub, Int.reduceMul, Int.reduceNeg, Int.reduceToNat, Int.reduceEq, ↓reduceIte, reduceCtorEq, s_elive_eq, s_rnames31_eq, s_efind_eq, s_ename_eq, s_egroup_eq, s_rgroup31_eq, s_elines_eq, s_rlines_eq, s0, h1, h2, hW, k0, k1, nm21_len]; repeat (simp (disch := omega) only [w64_d, ipos, ineg, dpos, dneg]; try simp (config := { maxSteps := 10000000 }) only [go_sem, List.reduceReplicate, BitVec.reduceOfInt, BitVec.reduceToNat, BitVec.reduceToInt, BitVec.reduceEq, BitVec.reduceLT, BitVec.reduceLE, BitVec.reduceAdd, BitVec.reduceSub, BitVec.reduceMul, BitVec.reduceUDiv, BitVec.reduceUMod, BitVec.reduceAnd, BitVec.reduceOr, BitVec.reduceXOr, BitVec.reduceNot, BitVec.reduceNeg, BitVec.reduceHShiftLeft, BitVec.reduceHShiftRight, Nat.reduceAdd, Nat.reduceMul, Nat.reduceSub, Nat.reduceBEq, Nat.reduceEqDiff, Nat.reduceLeDiff, Nat.reduceLT, Int.reduceLE, Int.reduceLT, Int.reduceAdd, Int.reduceSub, Int.reduceMul, Int.reduceNeg, Int.reduceToNat, Int.reduceEq, ↓reduceIte, reduceCtorEq, s_elive_eq, s_rnames31_eq, s_efind_eq, s_ename_eq, s_egroup_eq, s_rgroup31_eq, s_elines_eq, s_rlines_eq, s0, h1, h2, hW, k0, k1, nm21_len]))
          refine arun_for 20 (fun j => ([(0, .c (.i kk)), (2, .c (.s s)), (4, .c (.p 0 0 0)), (7, .c (.sl 1 0 21 21)), (8, .c (.s (enameS kk))), (9, .c (.i (lastK s j))), (10, .c (.i (j + 1 : Nat)))], [.own (.i k :: .u a :: .u b :: .i c :: .i sz :: r), .vec 1 nm21])) ?_ fun j hj => ?_
          · exact Wk.wk (Nat.zero_le _) (by simp [Am.get, lastK, hW]) (by simp [AV.bel, Sc.bel]) (subH_refl _) (by simp only [List.all_cons, List.all_nil, AObj.scs, nm21_bel, Sc.bel, br]; rfl)
          · by_cases hlt : j < 20
            · have q0 : ((j + 1 : Nat) : Int) < 21 := by omega
              have q1 : (0 : Int) ≤ ((j + 1 : Nat) : Int) := by omega
              have q2 : j + 1 + 1 ≤ 21 := by omega
              have gn := nm21_get (k := j + 1) (by omega)
              have e2 := e1 (j + 1) (by omega)
              by_cases hn : enm (j + 1) = s
              · have hn' := eq_true hn
                have hl : lastK s (j + 1) = ((j + 1 : Nat) : Int) := by simp only [lastK]; rw [if_pos hn]; omega
                (try simp (config := { maxSteps := 10000000 }) only [go_sem, List.reduceReplicate, BitVec.reduceOfInt, BitVec.reduceToNat, BitVec.reduceToInt, BitVec.reduceEq, BitVec.reduceLT, BitVec.reduceLE, BitVec.reduceAdd, BitVec.reduceSub, BitVec.reduceMul, BitVec.reduceUDiv, BitVec.reduceUMod, BitVec.reduceAnd, BitVec.reduceOr, BitVec.reduceXOr, BitVec.reduceNot, BitVec.reduceNeg, BitVec.reduceHShiftLeft, BitVec.reduceHShiftRight, Nat.reduceAdd, Nat.reduceMul, Nat.reduceSub, Nat.reduceBEq, Nat.reduceEqDiff, Nat.reduceLeDiff, Nat.reduceLT, Int.reduceLE, Int.reduceLT, Int.reduceAdd, Int.reduceSub, Int.reduceMul, Int.reduceNeg, Int.reduceToNat, Int.reduceEq, ↓reduceIte, reduceCtorEq, q0, q1, q2, gn, hn', nm21_len, Int.toNat_natCast, e2]; repeat (simp (disch := omega) only [w64_d, ipos, ineg, dpos, dneg]; try simp (config := { maxSteps := 10000000 }) only [go_sem, List.reduceReplicate, BitVec.reduceOfInt, BitVec.reduceToNat, BitVec.reduceToInt, BitVec.reduceEq, BitVec.reduceLT, BitVec.reduceLE, BitVec.reduceAdd, BitVec.reduceSub, BitVec.reduceMul, BitVec.reduceUDiv, BitVec.reduceUMod, BitVec.reduceAnd, BitVec.reduceOr, BitVec.reduceXOr, BitVec.reduceNot, BitVec.reduceNeg, BitVec.reduceHShiftLeft, BitVec.reduceHShiftRight, Nat.reduceAdd, Nat.reduceMul, Nat.reduceSub, Nat.reduceBEq, Nat.reduceEqDiff, Nat.reduceLeDiff, Nat.reduceLT, Int.reduceLE, Int.reduceLT, Int.reduceAdd, Int.reduceSub, Int.reduceMul, Int.reduceNeg, Int.reduceToNat, Int.reduceEq, ↓reduceIte, reduceCtorEq, q0, q1, q2, gn, hn', nm21_len, Int.toNat_natCast, e2]))
                exact ⟨j + 1, by omega, by omega, Wk.wk (Nat.zero_le _) (by simp [Am.get, hl]) (by simp [AV.bel, Sc.bel]) (subH_refl _) (by simp only [List.all_cons, List.all_nil, AObj.scs, nm21_bel, Sc.bel, br]; rfl)⟩
              · have hl : lastK s (j + 1) = lastK s j := by simp only [lastK]; rw [if_neg hn]
                (try simp (config := { maxSteps := 10000000 }) only [go_sem, List.reduceReplicate, BitVec.reduceOfInt, BitVec.reduceToNat, BitVec.reduceToInt, BitVec.reduceEq, BitVec.reduceLT, BitVec.reduceLE, BitVec.reduceAdd, BitVec.reduceSub, BitVec.reduceMul, BitVec.reduceUDiv, BitVec.reduceUMod, BitVec.reduceAnd, BitVec.reduceOr, BitVec.reduceXOr, BitVec.reduceNot, BitVec.reduceNeg, BitVec.reduceHShiftLeft, BitVec.reduceHShiftRight, Nat.reduceAdd, Nat.reduceMul, Nat.reduceSub, Nat.reduceBEq, Nat.reduceEqDiff, Nat.reduceLeDiff, Nat.reduceLT, Int.reduceLE, Int.reduceLT, Int.reduceAdd, Int.reduceSub, Int.reduceMul, Int.reduceNeg, Int.reduceToNat, Int.reduceEq, ↓reduceIte, reduceCtorEq, q0, q1, q2, gn, hn, nm21_len, Int.toNat_natCast, e2]; repeat (simp (disch := omega) only [w64_d, ipos, ineg, dpos, dneg]; try simp (config := { maxSteps := 10000000 }) only [go_sem, List.reduceReplicate, BitVec.reduceOfInt, BitVec.reduceToNat, BitVec.reduceToInt, BitVec.reduceEq, BitVec.reduceLT, BitVec.reduceLE, BitVec.reduceAdd, BitVec.reduceSub, BitVec.reduceMul, BitVec.reduceUDiv, BitVec.reduceUMod, BitVec.reduceAnd, BitVec.reduceOr, BitVec.reduceXOr, BitVec.reduceNot, BitVec.reduceNeg, BitVec.reduceHShiftLeft, BitVec.reduceHShiftRight, Nat.reduceAdd, Nat.reduceMul, Nat.reduceSub, Nat.reduceBEq, Nat.reduceEqDiff, Nat.reduceLeDiff, Nat.reduceLT, Int.reduceLE, Int.reduceLT, Int.reduceAdd, Int.reduceSub, Int.reduceMul, Int.reduceNeg, Int.reduceToNat, Int.reduceEq, ↓reduceIte, reduceCtorEq, q0, q1, q2, gn, hn, nm21_len, Int.toNat_natCast, e2]))
                exact ⟨j + 1, by omega, by omega, Wk.wk (Nat.zero_le _) (by simp [Am.get, hl]) (by simp [AV.bel, Sc.bel]) (subH_refl _) (by simp only [List.all_cons, List.all_nil, AObj.scs, nm21_bel, Sc.bel, br]; rfl)⟩
            · obtain rfl : j = 20 := by omega
              cases hL : isL k c sz
              · (try simp (config := { maxSteps := 10000000 }) only [go_sem, List.reduceReplicate, BitVec.reduceOfInt, BitVec.reduceToNat, BitVec.reduceToInt, BitVec.reduceEq, BitVec.reduceLT, BitVec.reduceLE, BitVec.reduceAdd, BitVec.reduceSub, BitVec.reduceMul, BitVec.reduceUDiv, BitVec.reduceUMod, BitVec.reduceAnd, BitVec.reduceOr, BitVec.reduceXOr, BitVec.reduceNot, BitVec.reduceNeg, BitVec.reduceHShiftLeft, BitVec.reduceHShiftRight, Nat.reduceAdd, Nat.reduceMul, Nat.reduceSub, Nat.reduceBEq, Nat.reduceEqDiff, Nat.reduceLeDiff, Nat.reduceLT, Int.reduceLE, Int.reduceLT, Int.reduceAdd, Int.reduceSub, Int.reduceMul, Int.reduceNeg, Int.reduceToNat, Int.reduceEq, ↓reduceIte, reduceCtorEq, s_elive_eq, s_rnames31_eq, s_efind_eq, s_ename_eq, s_egroup_eq, s_rgroup31_eq, s_elines_eq, s_rlines_eq, f0, f1, hR, hL, lr, rt]; repeat (simp (disch := omega) only [w64_d, ipos, ineg, dpos, dneg]; try simp (config := { maxSteps := 10000000 }) only [go_sem, List.reduceReplicate, BitVec.reduceOfInt, BitVec.reduceToNat, BitVec.reduceToInt, BitVec.reduceEq, BitVec.reduceLT, BitVec.reduceLE, BitVec.reduceAdd, BitVec.reduceSub, BitVec.reduceMul, BitVec.reduceUDiv, BitVec.reduceUMod, BitVec.reduceAnd, BitVec.reduceOr, BitVec.reduceXOr, BitVec.reduceNot, BitVec.reduceNeg, BitVec.reduceHShiftLeft, BitVec.reduceHShiftRight, Nat.reduceAdd, Nat.reduceMul, Nat.reduceSub, Nat.reduceBEq, Nat.reduceEqDiff, Nat.reduceLeDiff, Nat.reduceLT, Int.reduceLE, Int.reduceLT, Int.reduceAdd, Int.reduceSub, Int.reduceMul, Int.reduceNeg, Int.reduceToNat, Int.reduceEq, ↓reduceIte, reduceCtorEq, s_elive_eq, s_rnames31_eq, s_efind_eq, s_ename_eq, s_egroup_eq, s_rgroup31_eq, s_elines_eq, s_rlines_eq, f0, f1, hR, hL, lr, rt]))
                refine ⟨by kernel_rfl, ?_⟩
                refine arun_for 0 (fun _ => ([(13, .c .nils), (14, .c .nils), (15, .c (.i 0))], [])) ?_ fun j hj => ?_
                · exact Wk.wk (Nat.zero_le _) (by simp [Am.get]) (by rfl) trivial (by rfl)
                · (try simp (config := { maxSteps := 10000000 }) only [go_sem, List.reduceReplicate, BitVec.reduceOfInt, BitVec.reduceToNat, BitVec.reduceToInt, BitVec.reduceEq, BitVec.reduceLT, BitVec.reduceLE, BitVec.reduceAdd, BitVec.reduceSub, BitVec.reduceMul, BitVec.reduceUDiv, BitVec.reduceUMod, BitVec.reduceAnd, BitVec.reduceOr, BitVec.reduceXOr, BitVec.reduceNot, BitVec.reduceNeg, BitVec.reduceHShiftLeft, BitVec.reduceHShiftRight, Nat.reduceAdd, Nat.reduceMul, Nat.reduceSub, Nat.reduceBEq, Nat.reduceEqDiff, Nat.reduceLeDiff, Nat.reduceLT, Int.reduceLE, Int.reduceLT, Int.reduceAdd, Int.reduceSub, Int.reduceMul, Int.reduceNeg, Int.reduceToNat, Int.reduceEq, ↓reduceIte, reduceCtorEq, s_elive_eq, s_rnames31_eq, s_efind_eq, s_ename_eq, s_egroup_eq, s_rgroup31_eq, s_elines_eq, s_rlines_eq]; repeat (simp (disch := omega) only [w64_d, ipos, ineg, dpos, dneg]; try simp (config := { maxSteps := 10000000 }) only [go_sem, List.reduceReplicate, BitVec.reduceOfInt, BitVec.reduceToNat, BitVec.reduceToInt, BitVec.reduceEq, BitVec.reduceLT, BitVec.reduceLE, BitVec.reduceAdd, BitVec.reduceSub, BitVec.reduceMul, BitVec.reduceUDiv, BitVec.reduceUMod, BitVec.reduceAnd, BitVec.reduceOr, BitVec.reduceXOr, BitVec.reduceNot, BitVec.reduceNeg, BitVec.reduceHShiftLeft, BitVec.reduceHShiftRight, Nat.reduceAdd, Nat.reduceMul, Nat.reduceSub, Nat.reduceBEq, Nat.reduceEqDiff, Nat.reduceLeDiff, Nat.reduceLT, Int.reduceLE, Int.reduceLT, Int.reduceAdd, Int.reduceSub, Int.reduceMul, Int.reduceNeg, Int.reduceToNat, Int.reduceEq, ↓reduceIte, reduceCtorEq, s_elive_eq, s_rnames31_eq, s_efind_eq, s_ename_eq, s_egroup_eq, s_rgroup31_eq, s_elines_eq, s_rlines_eq]))
              · have eD := lines_same (a := a) (b := b) hL
                have dl : (ddp (srt ltU (linL a b c sz))).length ≤ (srt ltU (linL a b c sz)).length := ddN_le
                rw [srt_len] at dl
                have eC : cmpCU (srt ltU (linL a b c sz)) = (setB (byteU a b c) sz.toNat).map gU ++ List.replicate ((srt ltU (linL a b c sz)).length - (setB (byteU a b c) sz.toNat).length) (gU 0#64) := by unfold cmpCU; rw [eD]
                have lC : (cmpCU (srt ltU (linL a b c sz))).length = (linL a b c sz).length := by
                  have := @srt_len _ ltU (linL a b c sz)
                  simp [cmpCU]; omega
                have l4 := @accP_le a b c sz
                rw [← linL_len] at l4
                have e2 := fun H => s_elines_eq (k := k) (a := a) (b := b) (c := c) (s := sz) (H := H) hR
                have e3 := fun H => s_rlines_eq (k := k) (a := a) (b := b) (c := c) (s := sz) (H := H) hR
                rw [eD] at dl
                simp only [eD, eC, hL, if_true] at e2 e3
                generalize List.replicate ((srt ltU (linL a b c sz)).length - (setB (byteU a b c) sz.toNat).length) (gU 0#64) = R at *
                generalize setB (byteU a b c) sz.toNat = D at *
                have cb : ∀ n, (D.map gU ++ R).all (Sc.bel n) = true := fun n => by rw [← eC]; exact cmpCU_bel
                rw [eC] at lC
                generalize linL a b c sz = A at *
                (try simp (config := { maxSteps := 10000000 }) only [go_sem, List.reduceReplicate, BitVec.reduceOfInt, BitVec.reduceToNat, BitVec.reduceToInt, BitVec.reduceEq, BitVec.reduceLT, BitVec.reduceLE, BitVec.reduceAdd, BitVec.reduceSub, BitVec.reduceMul, BitVec.reduceUDiv, BitVec.reduceUMod, BitVec.reduceAnd, BitVec.reduceOr, BitVec.reduceXOr, BitVec.reduceNot, BitVec.reduceNeg, BitVec.reduceHShiftLeft, BitVec.reduceHShiftRight, Nat.reduceAdd, Nat.reduceMul, Nat.reduceSub, Nat.reduceBEq, Nat.reduceEqDiff, Nat.reduceLeDiff, Nat.reduceLT, Int.reduceLE, Int.reduceLT, Int.reduceAdd, Int.reduceSub, Int.reduceMul, Int.reduceNeg, Int.reduceToNat, Int.reduceEq, ↓reduceIte, reduceCtorEq, s_elive_eq, s_ename_eq, s_egroup_eq, s_rgroup31_eq, s_efind_eq, f0, f1, lr, rt, e2, e3]; repeat (simp (disch := omega) only [w64_d, ipos, ineg, dpos, dneg]; try simp (config := { maxSteps := 10000000 }) only [go_sem, List.reduceReplicate, BitVec.reduceOfInt, BitVec.reduceToNat, BitVec.reduceToInt, BitVec.reduceEq, BitVec.reduceLT, BitVec.reduceLE, BitVec.reduceAdd, BitVec.reduceSub, BitVec.reduceMul, BitVec.reduceUDiv, BitVec.reduceUMod, BitVec.reduceAnd, BitVec.reduceOr, BitVec.reduceXOr, BitVec.reduceNot, BitVec.reduceNeg, BitVec.reduceHShiftLeft, BitVec.reduceHShiftRight, Nat.reduceAdd, Nat.reduceMul, Nat.reduceSub, Nat.reduceBEq, Nat.reduceEqDiff, Nat.reduceLeDiff, Nat.reduceLT, Int.reduceLE, Int.reduceLT, Int.reduceAdd, Int.reduceSub, Int.reduceMul, Int.reduceNeg, Int.reduceToNat, Int.reduceEq, ↓reduceIte, reduceCtorEq, s_elive_eq, s_ename_eq, s_egroup_eq, s_rgroup31_eq, s_efind_eq, f0, f1, lr, rt, e2, e3]))
                refine ⟨by kernel_rfl, ?_⟩
                refine arun_for D.length (fun k => ([(13, .c (.sl 2 0 A.length D.length)), (14, .c (.sl 3 0 D.length D.length)), (15, .c (.i k))], [.dead, .dead, .vec 1 (D.map gU ++ R), .vec 1 (D.map gU)])) ?_ fun k hk => ?_
                · exact Wk.wk (Nat.zero_le _) (by simp [Am.get]) (by simp [AV.bel, Sc.bel]) ⟨.inl rfl, .inl rfl, .inr rfl, .inr rfl, trivial⟩ (by simp only [List.all_cons, List.all_nil, AObj.scs, map_bel gU_num, cb]; rfl)
                · by_cases hlt : k < D.length
                  · obtain ⟨x, hx⟩ : ∃ x, D[k]? = some x := ⟨_, List.getElem?_eq_getElem hlt⟩
                    have e1 : w64 ((k : Int) + 1) = ((k + 1 : Nat) : Int) := by rw [w64_d (by omega) (by omega)]; omega
                    have c1 := map_getD (g := gU) hx
                    have c2 : (D.map gU ++ R).getD k .any = gU x := by rw [List.getD_eq_getElem?_getD, List.getElem?_append_left (by simpa using hlt), ← List.getD_eq_getElem?_getD]; exact c1
                    have q1 : k + 1 ≤ A.length := by omega
                    have q2 : k + 1 ≤ D.length := by omega
                    rw [List.length_append, List.length_map] at lC
                    (try simp (config := { maxSteps := 10000000 }) only [go_sem, List.reduceReplicate, BitVec.reduceOfInt, BitVec.reduceToNat, BitVec.reduceToInt, BitVec.reduceEq, BitVec.reduceLT, BitVec.reduceLE, BitVec.reduceAdd, BitVec.reduceSub, BitVec.reduceMul, BitVec.reduceUDiv, BitVec.reduceUMod, BitVec.reduceAnd, BitVec.reduceOr, BitVec.reduceXOr, BitVec.reduceNot, BitVec.reduceNeg, BitVec.reduceHShiftLeft, BitVec.reduceHShiftRight, Nat.reduceAdd, Nat.reduceMul, Nat.reduceSub, Nat.reduceBEq, Nat.reduceEqDiff, Nat.reduceLeDiff, Nat.reduceLT, Int.reduceLE, Int.reduceLT, Int.reduceAdd, Int.reduceSub, Int.reduceMul, Int.reduceNeg, Int.reduceToNat, Int.reduceEq, ↓reduceIte, reduceCtorEq, e1, c1, c2, gU, q1, q2, lC, List.length_map]; repeat (simp (disch := omega) only [w64_d, ipos, ineg, dpos, dneg]; try simp (config := { maxSteps := 10000000 }) only [go_sem, List.reduceReplicate, BitVec.reduceOfInt, BitVec.reduceToNat, BitVec.reduceToInt, BitVec.reduceEq, BitVec.reduceLT, BitVec.reduceLE, BitVec.reduceAdd, BitVec.reduceSub, BitVec.reduceMul, BitVec.reduceUDiv, BitVec.reduceUMod, BitVec.reduceAnd, BitVec.reduceOr, BitVec.reduceXOr, BitVec.reduceNot, BitVec.reduceNeg, BitVec.reduceHShiftLeft, BitVec.reduceHShiftRight, Nat.reduceAdd, Nat.reduceMul, Nat.reduceSub, Nat.reduceBEq, Nat.reduceEqDiff, Nat.reduceLeDiff, Nat.reduceLT, Int.reduceLE, Int.reduceLT, Int.reduceAdd, Int.reduceSub, Int.reduceMul, Int.reduceNeg, Int.reduceToNat, Int.reduceEq, ↓reduceIte, reduceCtorEq, e1, c1, c2, gU, q1, q2, lC, List.length_map]))
                    exact ⟨k + 1, by omega, by omega, Wk.wk (Nat.zero_le _) (by simp [Am.get]) (by simp [AV.bel, Sc.bel]) (subH_refl _) (by simp only [List.all_cons, List.all_nil, AObj.scs, map_bel gU_num, cb]; rfl)⟩
                  · obtain rfl : k = D.length := by omega
                    (try simp (config := { maxSteps := 10000000 }) only [go_sem, List.reduceReplicate, BitVec.reduceOfInt, BitVec.reduceToNat, BitVec.reduceToInt, BitVec.reduceEq, BitVec.reduceLT, BitVec.reduceLE, BitVec.reduceAdd, BitVec.reduceSub, BitVec.reduceMul, BitVec.reduceUDiv, BitVec.reduceUMod, BitVec.reduceAnd, BitVec.reduceOr, BitVec.reduceXOr, BitVec.reduceNot, BitVec.reduceNeg, BitVec.reduceHShiftLeft, BitVec.reduceHShiftRight, Nat.reduceAdd, Nat.reduceMul, Nat.reduceSub, Nat.reduceBEq, Nat.reduceEqDiff, Nat.reduceLeDiff, Nat.reduceLT, Int.reduceLE, Int.reduceLT, Int.reduceAdd, Int.reduceSub, Int.reduceMul, Int.reduceNeg, Int.reduceToNat, Int.reduceEq, ↓reduceIte, reduceCtorEq, s_elive_eq]; repeat (simp (disch := omega) only [w64_d, ipos, ineg, dpos, dneg]; try simp (config := { maxSteps := 10000000 }) only [go_sem, List.reduceReplicate, BitVec.reduceOfInt, BitVec.reduceToNat, BitVec.reduceToInt, BitVec.reduceEq, BitVec.reduceLT, BitVec.reduceLE, BitVec.reduceAdd, BitVec.reduceSub, BitVec.reduceMul, BitVec.reduceUDiv, BitVec.reduceUMod, BitVec.reduceAnd, BitVec.reduceOr, BitVec.reduceXOr, BitVec.reduceNot, BitVec.reduceNeg, BitVec.reduceHShiftLeft, BitVec.reduceHShiftRight, Nat.reduceAdd, Nat.reduceMul, Nat.reduceSub, Nat.reduceBEq, Nat.reduceEqDiff, Nat.reduceLeDiff, Nat.reduceLT, Int.reduceLE, Int.reduceLT, Int.reduceAdd, Int.reduceSub, Int.reduceMul, Int.reduceNeg, Int.reduceToNat, Int.reduceEq, ↓reduceIte, reduceCtorEq, s_elive_eq]))
        · (try simp (config := { maxSteps := 10000000 }) only [go_sem, List.reduceReplicate, BitVec.reduceOfInt, BitVec.reduceToNat, BitVec.reduceToInt, BitVec.reduceEq, BitVec.reduceLT, BitVec.reduceLE, BitVec.reduceAdd, BitVec.reduceSub, BitVec.reduceMul, BitVec.reduceUDiv, BitVec.reduceUMod, BitVec.reduceAnd, BitVec.reduceOr, BitVec.reduceXOr, BitVec.reduceNot, BitVec.reduceNeg, BitVec.reduceHShiftLeft, BitVec.reduceHShiftRight, Nat.reduceAdd, Nat.reduceMul, Nat.reduceSub, Nat.reduceBEq, Nat.reduceEqDiff, Nat.reduceLeDiff, Nat.reduceLT, Int.reduceLE, Int.reduceLT, Int.reduceAdd, Int.reduceSub, Int.reduceMul, Int.reduceNeg, Int.reduceToNat, Int.reduceEq, ↓reduceIte, reduceCtorEq, s_elive_eq, s_rnames31_eq, s_efind_eq, s_ename_eq, s_egroup_eq, s_rgroup31_eq, s_elines_eq, s_rlines_eq, s0, h1, nm21_len]; repeat (simp (disch := omega) only [w64_d, ipos, ineg, dpos, dneg]; try simp (config := { maxSteps := 10000000 }) only [go_sem, List.reduceReplicate, BitVec.reduceOfInt, BitVec.reduceToNat, BitVec.reduceToInt, BitVec.reduceEq, BitVec.reduceLT, BitVec.reduceLE, BitVec.reduceAdd, BitVec.reduceSub, BitVec.reduceMul, BitVec.reduceUDiv, BitVec.reduceUMod, BitVec.reduceAnd, BitVec.reduceOr, BitVec.reduceXOr, BitVec.reduceNot, BitVec.reduceNeg, BitVec.reduceHShiftLeft, BitVec.reduceHShiftRight, Nat.reduceAdd, Nat.reduceMul, Nat.reduceSub, Nat.reduceBEq, Nat.reduceEqDiff, Nat.reduceLeDiff, Nat.reduceLT, Int.reduceLE, Int.reduceLT, Int.reduceAdd, Int.reduceSub, Int.reduceMul, Int.reduceNeg, Int.reduceToNat, Int.reduceEq, ↓reduceIte, reduceCtorEq, s_elive_eq, s_rnames31_eq, s_efind_eq, s_ename_eq, s_egroup_eq, s_rgroup31_eq, s_elines_eq, s_rlines_eq, s0, h1, nm21_len]))
          refine arun_for 20 (fun j => ([(0, .c (.i kk)), (2, .c (.s s)), (4, .c (.p 0 0 0)), (7, .c (.sl 1 0 21 21)), (8, .c (.s (enameS kk))), (9, .c (.i (lastK s j))), (10, .c (.i (j + 1 : Nat)))], [.own (.i k :: .u a :: .u b :: .i c :: .i sz :: r), .vec 1 nm21])) ?_ fun j hj => ?_
          · exact Wk.wk (Nat.zero_le _) (by simp [Am.get, lastK, hW]) (by simp [AV.bel, Sc.bel]) (subH_refl _) (by simp only [List.all_cons, List.all_nil, AObj.scs, nm21_bel, Sc.bel, br]; rfl)
          · by_cases hlt : j < 20
            · have q0 : ((j + 1 : Nat) : Int) < 21 := by omega
              have q1 : (0 : Int) ≤ ((j + 1 : Nat) : Int) := by omega
              have q2 : j + 1 + 1 ≤ 21 := by omega
              have gn := nm21_get (k := j + 1) (by omega)
              have e2 := e1 (j + 1) (by omega)
              by_cases hn : enm (j + 1) = s
              · have hn' := eq_true hn
                have hl : lastK s (j + 1) = ((j + 1 : Nat) : Int) := by simp only [lastK]; rw [if_pos hn]; omega
                (try simp (config := { maxSteps := 10000000 }) only [go_sem, List.reduceReplicate, BitVec.reduceOfInt, BitVec.reduceToNat, BitVec.reduceToInt, BitVec.reduceEq, BitVec.reduceLT, BitVec.reduceLE, BitVec.reduceAdd, BitVec.reduceSub, BitVec.reduceMul, BitVec.reduceUDiv, BitVec.reduceUMod, BitVec.reduceAnd, BitVec.reduceOr, BitVec.reduceXOr, BitVec.reduceNot, BitVec.reduceNeg, BitVec.reduceHShiftLeft, BitVec.reduceHShiftRight, Nat.reduceAdd, Nat.reduceMul, Nat.reduceSub, Nat.reduceBEq, Nat.reduceEqDiff, Nat.reduceLeDiff, Nat.reduceLT, Int.reduceLE, Int.reduceLT, Int.reduceAdd, Int.reduceSub, Int.reduceMul, Int.reduceNeg, Int.reduceToNat, Int.reduceEq, ↓reduceIte, reduceCtorEq, q0, q1, q2, gn, hn', nm21_len, Int.toNat_natCast, e2]; repeat (simp (disch := omega) only [w64_d, ipos, ineg, dpos, dneg]; try simp (config := { maxSteps := 10000000 }) only [go_sem, List.reduceReplicate, BitVec.reduceOfInt, BitVec.reduceToNat, BitVec.reduceToInt, BitVec.reduceEq, BitVec.reduceLT, BitVec.reduceLE, BitVec.reduceAdd, BitVec.reduceSub, BitVec.reduceMul, BitVec.reduceUDiv, BitVec.reduceUMod, BitVec.reduceAnd, BitVec.reduceOr, BitVec.reduceXOr, BitVec.reduceNot, BitVec.reduceNeg, BitVec.reduceHShiftLeft, BitVec.reduceHShiftRight, Nat.reduceAdd, Nat.reduceMul, Nat.reduceSub, Nat.reduceBEq, Nat.reduceEqDiff, Nat.reduceLeDiff, Nat.reduceLT, Int.reduceLE, Int.reduceLT, Int.reduceAdd, Int.reduceSub, Int.reduceMul, Int.reduceNeg, Int.reduceToNat, Int.reduceEq, ↓reduceIte, reduceCtorEq, q0, q1, q2, gn, hn', nm21_len, Int.toNat_natCast, e2]))
                exact ⟨j + 1, by omega, by omega, Wk.wk (Nat.zero_le _) (by simp [Am.get, hl]) (by simp [AV.bel, Sc.bel]) (subH_refl _) (by simp only [List.all_cons, List.all_nil, AObj.scs, nm21_bel, Sc.bel, br]; rfl)⟩
              · have hl : lastK s (j + 1) = lastK s j := by simp only [lastK]; rw [if_neg hn]
                (try simp (config := { maxSteps := 10000000 }) only [go_sem, List.reduceReplicate, BitVec.reduceOfInt, BitVec.reduceToNat, BitVec.reduceToInt, BitVec.reduceEq, BitVec.reduceLT, BitVec.reduceLE, BitVec.reduceAdd, BitVec.reduceSub, BitVec.reduceMul, BitVec.reduceUDiv, BitVec.reduceUMod, BitVec.reduceAnd, BitVec.reduceOr, BitVec.reduceXOr, BitVec.reduceNot, BitVec.reduceNeg, BitVec.reduceHShiftLeft, BitVec.reduceHShiftRight, Nat.reduceAdd, Nat.reduceMul, Nat.reduceSub, Nat.reduceBEq, Nat.reduceEqDiff, Nat.reduceLeDiff, Nat.reduceLT, Int.reduceLE, Int.reduceLT, Int.reduceAdd, Int.reduceSub, Int.reduceMul, Int.reduceNeg, Int.reduceToNat, Int.reduceEq, ↓reduceIte, reduceCtorEq, q0, q1, q2, gn, hn, nm21_len, Int.toNat_natCast, e2]; repeat (simp (disch := omega) only [w64_d, ipos, ineg, dpos, dneg]; try simp (config := { maxSteps := 10000000 }) only [go_sem, List.reduceReplicate, BitVec.reduceOfInt, BitVec.reduceToNat, BitVec.reduceToInt, BitVec.reduceEq, BitVec.reduceLT, BitVec.reduceLE, BitVec.reduceAdd, BitVec.reduceSub, BitVec.reduceMul, BitVec.reduceUDiv, BitVec.reduceUMod, BitVec.reduceAnd, BitVec.reduceOr, BitVec.reduceXOr, BitVec.reduceNot, BitVec.reduceNeg, BitVec.reduceHShiftLeft, BitVec.reduceHShiftRight, Nat.reduceAdd, Nat.reduceMul, Nat.reduceSub, Nat.reduceBEq, Nat.reduceEqDiff, Nat.reduceLeDiff, Nat.reduceLT, Int.reduceLE, Int.reduceLT, Int.reduceAdd, Int.reduceSub, Int.reduceMul, Int.reduceNeg, Int.reduceToNat, Int.reduceEq, ↓reduceIte, reduceCtorEq, q0, q1, q2, gn, hn, nm21_len, Int.toNat_natCast, e2]))
                exact ⟨j + 1, by omega, by omega, Wk.wk (Nat.zero_le _) (by simp [Am.get, hl]) (by simp [AV.bel, Sc.bel]) (subH_refl _) (by simp only [List.all_cons, List.all_nil, AObj.scs, nm21_bel, Sc.bel, br]; rfl)⟩
            · obtain rfl : j = 20 := by omega
              cases hL : isL k c sz
              · (try simp (config := { maxSteps := 10000000 }) only [go_sem, List.reduceReplicate, BitVec.reduceOfInt, BitVec.reduceToNat, BitVec.reduceToInt, BitVec.reduceEq, BitVec.reduceLT, BitVec.reduceLE, BitVec.reduceAdd, BitVec.reduceSub, BitVec.reduceMul, BitVec.reduceUDiv, BitVec.reduceUMod, BitVec.reduceAnd, BitVec.reduceOr, BitVec.reduceXOr, BitVec.reduceNot, BitVec.reduceNeg, BitVec.reduceHShiftLeft, BitVec.reduceHShiftRight, Nat.reduceAdd, Nat.reduceMul, Nat.reduceSub, Nat.reduceBEq, Nat.reduceEqDiff, Nat.reduceLeDiff, Nat.reduceLT, Int.reduceLE, Int.reduceLT, Int.reduceAdd, Int.reduceSub, Int.reduceMul, Int.reduceNeg, Int.reduceToNat, Int.reduceEq, ↓reduceIte, reduceCtorEq, s_elive_eq, s_rnames31_eq, s_efind_eq, s_ename_eq, s_egroup_eq, s_rgroup31_eq, s_elines_eq, s_rlines_eq, f0, f1, hR, hL, lr, rt]; repeat (simp (disch := omega) only [w64_d, ipos, ineg, dpos, dneg]; try simp (config := { maxSteps := 10000000 }) only [go_sem, List.reduceReplicate, BitVec.reduceOfInt, BitVec.reduceToNat, BitVec.reduceToInt, BitVec.reduceEq, BitVec.reduceLT, BitVec.reduceLE, BitVec.reduceAdd, BitVec.reduceSub, BitVec.reduceMul, BitVec.reduceUDiv, BitVec.reduceUMod, BitVec.reduceAnd, BitVec.reduceOr, BitVec.reduceXOr, BitVec.reduceNot, BitVec.reduceNeg, BitVec.reduceHShiftLeft, BitVec.reduceHShiftRight, Nat.reduceAdd, Nat.reduceMul, Nat.reduceSub, Nat.reduceBEq, Nat.reduceEqDiff, Nat.reduceLeDiff, Nat.reduceLT, Int.reduceLE, Int.reduceLT, Int.reduceAdd, Int.reduceSub, Int.reduceMul, Int.reduceNeg, Int.reduceToNat, Int.reduceEq, ↓reduceIte, reduceCtorEq, s_elive_eq, s_rnames31_eq, s_efind_eq, s_ename_eq, s_egroup_eq, s_rgroup31_eq, s_elines_eq, s_rlines_eq, f0, f1, hR, hL, lr, rt]))
                refine ⟨by kernel_rfl, ?_⟩
                refine arun_for 0 (fun _ => ([(13, .c .nils), (14, .c .nils), (15, .c (.i 0))], [])) ?_ fun j hj => ?_
                · exact Wk.wk (Nat.zero_le _) (by simp [Am.get]) (by rfl) trivial (by rfl)
                · (try simp (config := { maxSteps := 10000000 }) only [go_sem, List.reduceReplicate, BitVec.reduceOfInt, BitVec.reduceToNat, BitVec.reduceToInt, BitVec.reduceEq, BitVec.reduceLT, BitVec.reduceLE, BitVec.reduceAdd, BitVec.reduceSub, BitVec.reduceMul, BitVec.reduceUDiv, BitVec.reduceUMod, BitVec.reduceAnd, BitVec.reduceOr, BitVec.reduceXOr, BitVec.reduceNot, BitVec.reduceNeg, BitVec.reduceHShiftLeft, BitVec.reduceHShiftRight, Nat.reduceAdd, Nat.reduceMul, Nat.reduceSub, Nat.reduceBEq, Nat.reduceEqDiff, Nat.reduceLeDiff, Nat.reduceLT, Int.reduceLE, Int.reduceLT, Int.reduceAdd, Int.reduceSub, Int.reduceMul, Int.reduceNeg, Int.reduceToNat, Int.reduceEq, ↓reduceIte, reduceCtorEq, s_elive_eq, s_rnames31_eq, s_efind_eq, s_ename_eq, s_egroup_eq, s_rgroup31_eq, s_elines_eq, s_rlines_eq]; repeat (simp (disch := omega) only [w64_d, ipos, ineg, dpos, dneg]; try simp (config := { maxSteps := 10000000 }) only [go_sem, List.reduceReplicate, BitVec.reduceOfInt, BitVec.reduceToNat, BitVec.reduceToInt, BitVec.reduceEq, BitVec.reduceLT, BitVec.reduceLE, BitVec.reduceAdd, BitVec.reduceSub, BitVec.reduceMul, BitVec.reduceUDiv, BitVec.reduceUMod, BitVec.reduceAnd, BitVec.reduceOr, BitVec.reduceXOr, BitVec.reduceNot, BitVec.reduceNeg, BitVec.reduceHShiftLeft, BitVec.reduceHShiftRight, Nat.reduceAdd, Nat.reduceMul, Nat.reduceSub, Nat.reduceBEq, Nat.reduceEqDiff, Nat.reduceLeDiff, Nat.reduceLT, Int.reduceLE, Int.reduceLT, Int.reduceAdd, Int.reduceSub, Int.reduceMul, Int.reduceNeg, Int.reduceToNat, Int.reduceEq, ↓reduceIte, reduceCtorEq, s_elive_eq, s_rnames31_eq, s_efind_eq, s_ename_eq, s_egroup_eq, s_rgroup31_eq, s_elines_eq, s_rlines_eq]))
              · have eD := lines_same (a := a) (b := b) hL
                have dl : (ddp (srt ltU (linL a b c sz))).length ≤ (srt ltU (linL a b c sz)).length := ddN_le
                rw [srt_len] at dl
                have eC : cmpCU (srt ltU (linL a b c sz)) = (setB (byteU a b c) sz.toNat).map gU ++ List.replicate ((srt ltU (linL a b c sz)).length - (setB (byteU a b c) sz.toNat).length) (gU 0#64) := by unfold cmpCU; rw [eD]
                have lC : (cmpCU (srt ltU (linL a b c sz))).length = (linL a b c sz).length := by
                  have := @srt_len _ ltU (linL a b c sz)
                  simp [cmpCU]; omega
                have l4 := @accP_le a b c sz
                rw [← linL_len] at l4
                have e2 := fun H => s_elines_eq (k := k) (a := a) (b := b) (c := c) (s := sz) (H := H) hR
                have e3 := fun H => s_rlines_eq (k := k) (a := a) (b := b) (c := c) (s := sz) (H := H) hR
                rw [eD] at dl
                simp only [eD, eC, hL, if_true] at e2 e3
                generalize List.replicate ((srt ltU (linL a b c sz)).length - (setB (byteU a b c) sz.toNat).length) (gU 0#64) = R at *
                generalize setB (byteU a b c) sz.toNat = D at *
                have cb : ∀ n, (D.map gU ++ R).all (Sc.bel n) = true := fun n => by rw [← eC]; exact cmpCU_bel
                rw [eC] at lC
                generalize linL a b c sz = A at *
                (try simp (config := { maxSteps := 10000000 }) only [go_sem, List.reduceReplicate, BitVec.reduceOfInt, BitVec.reduceToNat, BitVec.reduceToInt, BitVec.reduceEq, BitVec.reduceLT, BitVec.reduceLE, BitVec.reduceAdd, BitVec.reduceSub, BitVec.reduceMul, BitVec.reduceUDiv, BitVec.reduceUMod, BitVec.reduceAnd, BitVec.reduceOr, BitVec.reduceXOr, BitVec.reduceNot, BitVec.reduceNeg, BitVec.reduceHShiftLeft, BitVec.reduceHShiftRight, Nat.reduceAdd, Nat.reduceMul, Nat.reduceSub, Nat.reduceBEq, Nat.reduceEqDiff, Nat.reduceLeDiff, Nat.reduceLT, Int.reduceLE, Int.reduceLT, Int.reduceAdd, Int.reduceSub, Int.reduceMul, Int.reduceNeg, Int.reduceToNat, Int.reduceEq, ↓reduceIte, reduceCtorEq, s_elive_eq, s_ename_eq, s_egroup_eq, s_rgroup31_eq, s_efind_eq, f0, f1, lr, rt, e2, e3]; repeat (simp (disch := omega) only [w64_d, ipos, ineg, dpos, dneg]; try simp (config := { maxSteps := 10000000 }) only [go_sem, List.reduceReplicate, BitVec.reduceOfInt, BitVec.reduceToNat, BitVec.reduceToInt, BitVec.reduceEq, BitVec.reduceLT, BitVec.reduceLE, BitVec.reduceAdd, BitVec.reduceSub, BitVec.reduceMul, BitVec.reduceUDiv, BitVec.reduceUMod, BitVec.reduceAnd, BitVec.reduceOr, BitVec.reduceXOr, BitVec.reduceNot, BitVec.reduceNeg, BitVec.reduceHShiftLeft, BitVec.reduceHShiftRight, Nat.reduceAdd, Nat.reduceMul, Nat.reduceSub, Nat.reduceBEq, Nat.reduceEqDiff, Nat.reduceLeDiff, Nat.reduceLT, Int.reduceLE, Int.reduceLT, Int.reduceAdd, Int.reduceSub, Int.reduceMul, Int.reduceNeg, Int.reduceToNat, Int.reduceEq, ↓reduceIte, reduceCtorEq, s_elive_eq, s_ename_eq, s_egroup_eq, s_rgroup31_eq, s_efind_eq, f0, f1, lr, rt, e2, e3]))
                refine ⟨by kernel_rfl, ?_⟩
                refine arun_for D.length (fun k => ([(13, .c (.sl 2 0 A.length D.length)), (14, .c (.sl 3 0 D.length D.length)), (15, .c (.i k))], [.dead, .dead, .vec 1 (D.map gU ++ R), .vec 1 (D.map gU)])) ?_ fun k hk => ?_
                · exact Wk.wk (Nat.zero_le _) (by simp [Am.get]) (by simp [AV.bel, Sc.bel]) ⟨.inl rfl, .inl rfl, .inr rfl, .inr rfl, trivial⟩ (by simp only [List.all_cons, List.all_nil, AObj.scs, map_bel gU_num, cb]; rfl)
                · by_cases hlt : k < D.length
                  · obtain ⟨x, hx⟩ : ∃ x, D[k]? = some x := ⟨_, List.getElem?_eq_getElem hlt⟩
                    have e1 : w64 ((k : Int) + 1) = ((k + 1 : Nat) : Int) := by rw [w64_d (by omega) (by omega)]; omega
                    have c1 := map_getD (g := gU) hx
                    have c2 : (D.map gU ++ R).getD k .any = gU x := by rw [List.getD_eq_getElem?_getD, List.getElem?_append_left (by simpa using hlt), ← List.getD_eq_getElem?_getD]; exact c1
                    have q1 : k + 1 ≤ A.length := by omega
                    have q2 : k + 1 ≤ D.length := by omega
                    rw [List.length_append, List.length_map] at lC
                    (try simp (config := { maxSteps := 10000000 }) only [go_sem, List.reduceReplicate, BitVec.reduceOfInt, BitVec.reduceToNat, BitVec.reduceToInt, BitVec.reduceEq, BitVec.reduceLT, BitVec.reduceLE, BitVec.reduceAdd, BitVec.reduceSub, BitVec.reduceMul, BitVec.reduceUDiv, BitVec.reduceUMod, BitVec.reduceAnd, BitVec.reduceOr, BitVec.reduceXOr, BitVec.reduceNot, BitVec.reduceNeg, BitVec.reduceHShiftLeft, BitVec.reduceHShiftRight, Nat.reduceAdd, Nat.reduceMul, Nat.reduceSub, Nat.reduceBEq, Nat.reduceEqDiff, Nat.reduceLeDiff, Nat.reduceLT, Int.reduceLE, Int.reduceLT, Int.reduceAdd, Int.reduceSub, Int.reduceMul, Int.reduceNeg, Int.reduceToNat, Int.reduceEq, ↓reduceIte, reduceCtorEq, e1, c1, c2, gU, q1, q2, lC, List.length_map]; repeat (simp (disch := omega) only [w64_d, ipos, ineg, dpos, dneg]; try simp (config := { maxSteps := 10000000 }) only [go_sem, List.reduceReplicate, BitVec.reduceOfInt, BitVec.reduceToNat, BitVec.reduceToInt, BitVec.reduceEq, BitVec.reduceLT, BitVec.reduceLE, BitVec.reduceAdd, BitVec.reduceSub, BitVec.reduceMul, BitVec.reduceUDiv, BitVec.reduceUMod, BitVec.reduceAnd, BitVec.reduceOr, BitVec.reduceXOr, BitVec.reduceNot, BitVec.reduceNeg, BitVec.reduceHShiftLeft, BitVec.reduceHShiftRight, Nat.reduceAdd, Nat.reduceMul, Nat.reduceSub, Nat.reduceBEq, Nat.reduceEqDiff, Nat.reduceLeDiff, Nat.reduceLT, Int.reduceLE, Int.reduceLT, Int.reduceAdd, Int.reduceSub, Int.reduceMul, Int.reduceNeg, Int.reduceToNat, Int.reduceEq, ↓reduceIte, reduceCtorEq, e1, c1, c2, gU, q1, q2, lC, List.length_map]))
                    exact ⟨k + 1, by omega, by omega, Wk.wk (Nat.zero_le _) (by simp [Am.get]) (by simp [AV.bel, Sc.bel]) (subH_refl _) (by simp only [List.all_cons, List.all_nil, AObj.scs, map_bel gU_num, cb]; rfl)⟩
                  · obtain rfl : k = D.length := by omega
                    (try simp (config := { maxSteps := 10000000 }) only [go_sem, List.reduceReplicate, BitVec.reduceOfInt, BitVec.reduceToNat, BitVec.reduceToInt, BitVec.reduceEq, BitVec.reduceLT, BitVec.reduceLE, BitVec.reduceAdd, BitVec.reduceSub, BitVec.reduceMul, BitVec.reduceUDiv, BitVec.reduceUMod, BitVec.reduceAnd, BitVec.reduceOr, BitVec.reduceXOr, BitVec.reduceNot, BitVec.reduceNeg, BitVec.reduceHShiftLeft, BitVec.reduceHShiftRight, Nat.reduceAdd, Nat.reduceMul, Nat.reduceSub, Nat.reduceBEq, Nat.reduceEqDiff, Nat.reduceLeDiff, Nat.reduceLT, Int.reduceLE, Int.reduceLT, Int.reduceAdd, Int.reduceSub, Int.reduceMul, Int.reduceNeg, Int.reduceToNat, Int.reduceEq, ↓reduceIte, reduceCtorEq, s_elive_eq]; repeat (simp (disch := omega) only [w64_d, ipos, ineg, dpos, dneg]; try simp (config := { maxSteps := 10000000 }) only [go_sem, List.reduceReplicate, BitVec.reduceOfInt, BitVec.reduceToNat, BitVec.reduceToInt, BitVec.reduceEq, BitVec.reduceLT, BitVec.reduceLE, BitVec.reduceAdd, BitVec.reduceSub, BitVec.reduceMul, BitVec.reduceUDiv, BitVec.reduceUMod, BitVec.reduceAnd, BitVec.reduceOr, BitVec.reduceXOr, BitVec.reduceNot, BitVec.reduceNeg, BitVec.reduceHShiftLeft, BitVec.reduceHShiftRight, Nat.reduceAdd, Nat.reduceMul, Nat.reduceSub, Nat.reduceBEq, Nat.reduceEqDiff, Nat.reduceLeDiff, Nat.reduceLT, Int.reduceLE, Int.reduceLT, Int.reduceAdd, Int.reduceSub, Int.reduceMul, Int.reduceNeg, Int.reduceToNat, Int.reduceEq, ↓reduceIte, reduceCtorEq, s_elive_eq]))
        · (try simp (config := { maxSteps := 10000000 }) only [go_sem, List.reduceReplicate, BitVec.reduceOfInt, BitVec.reduceToNat, BitVec.reduceToInt, BitVec.reduceEq, BitVec.reduceLT, BitVec.reduceLE, BitVec.reduceAdd, BitVec.reduceSub, BitVec.reduceMul, BitVec.reduceUDiv, BitVec.reduceUMod, BitVec.reduceAnd, BitVec.reduceOr, BitVec.reduceXOr, BitVec.reduceNot, BitVec.reduceNeg, BitVec.reduceHShiftLeft, BitVec.reduceHShiftRight, Nat.reduceAdd, Nat.reduceMul, Nat.reduceSub, Nat.reduceBEq, Nat.reduceEqDiff, Nat.reduceLeDiff, Nat.reduceLT, Int.reduceLE, Int.reduceLT, Int.reduceAdd, Int.reduceSub, Int.reduceMul, Int.reduceNeg, Int.reduceToNat, Int.reduceEq, ↓reduceIte, reduceCtorEq, s_elive_eq, s_rnames31_eq, s_efind_eq, s_ename_eq, s_egroup_eq, s_rgroup31_eq, s_elines_eq, s_rlines_eq, s0, h1, h2, nm21_len]; repeat (simp (disch := omega) only [w64_d, ipos, ineg, dpos, dneg]; try simp (config := { maxSteps := 10000000 }) only [go_sem, List.reduceReplicate, BitVec.reduceOfInt, BitVec.reduceToNat, BitVec.reduceToInt, BitVec.reduceEq, BitVec.reduceLT, BitVec.reduceLE, BitVec.reduceAdd, BitVec.reduceSub, BitVec.reduceMul, BitVec.reduceUDiv, BitVec.reduceUMod, BitVec.reduceAnd, BitVec.reduceOr, BitVec.reduceXOr, BitVec.reduceNot, BitVec.reduceNeg, BitVec.reduceHShiftLeft, BitVec.reduceHShiftRight, Nat.reduceAdd, Nat.reduceMul, Nat.reduceSub, Nat.reduceBEq, Nat.reduceEqDiff, Nat.reduceLeDiff, Nat.reduceLT, Int.reduceLE, Int.reduceLT, Int.reduceAdd, Int.reduceSub, Int.reduceMul, Int.reduceNeg, Int.reduceToNat, Int.reduceEq, ↓reduceIte, reduceCtorEq, s_elive_eq, s_rnames31_eq, s_efind_eq, s_ename_eq, s_egroup_eq, s_rgroup31_eq, s_elines_eq, s_rlines_eq, s0, h1, h2, nm21_len]))
          refine arun_for 20 (fun j => ([(0, .c (.i kk)), (2, .c (.s s)), (4, .c (.p 0 0 0)), (7, .c (.sl 1 0 21 21)), (8, .c (.s (enameS kk))), (9, .c (.i (lastK s j))), (10, .c (.i (j + 1 : Nat)))], [.own (.i k :: .u a :: .u b :: .i c :: .i sz :: r), .vec 1 nm21])) ?_ fun j hj => ?_
          · exact Wk.wk (Nat.zero_le _) (by simp [Am.get, lastK, hW]) (by simp [AV.bel, Sc.bel]) (subH_refl _) (by simp only [List.all_cons, List.all_nil, AObj.scs, nm21_bel, Sc.bel, br]; rfl)
          · by_cases hlt : j < 20
            · have q0 : ((j + 1 : Nat) : Int) < 21 := by omega
              have q1 : (0 : Int) ≤ ((j + 1 : Nat) : Int) := by omega
              have q2 : j + 1 + 1 ≤ 21 := by omega
              have gn := nm21_get (k := j + 1) (by omega)
              have e2 := e1 (j + 1) (by omega)
              by_cases hn : enm (j + 1) = s
              · have hn' := eq_true hn
                have hl : lastK s (j + 1) = ((j + 1 : Nat) : Int) := by simp only [lastK]; rw [if_pos hn]; omega
                (try simp (config := { maxSteps := 10000000 }) only [go_sem, List.reduceReplicate, BitVec.reduceOfInt, BitVec.reduceToNat, BitVec.reduceToInt, BitVec.reduceEq, BitVec.reduceLT, BitVec.reduceLE, BitVec.reduceAdd, BitVec.reduceSub, BitVec.reduceMul, BitVec.reduceUDiv, BitVec.reduceUMod, BitVec.reduceAnd, BitVec.reduceOr, BitVec.reduceXOr, BitVec.reduceNot, BitVec.reduceNeg, BitVec.reduceHShiftLeft, BitVec.reduceHShiftRight, Nat.reduceAdd, Nat.reduceMul, Nat.reduceSub, Nat.reduceBEq, Nat.reduceEqDiff, Nat.reduceLeDiff, Nat.reduceLT, Int.reduceLE, Int.reduceLT, Int.reduceAdd, Int.reduceSub, Int.reduceMul, Int.reduceNeg, Int.reduceToNat, Int.reduceEq, ↓reduceIte, reduceCtorEq, q0, q1, q2, gn, hn', nm21_len, Int.toNat_natCast, e2]; repeat (simp (disch := omega) only [w64_d, ipos, ineg, dpos, dneg]; try simp (config := { maxSteps := 10000000 }) only [go_sem, List.reduceReplicate, BitVec.reduceOfInt, BitVec.reduceToNat, BitVec.reduceToInt, BitVec.reduceEq, BitVec.reduceLT, BitVec.reduceLE, BitVec.reduceAdd, BitVec.reduceSub, BitVec.reduceMul, BitVec.reduceUDiv, BitVec.reduceUMod, BitVec.reduceAnd, BitVec.reduceOr, BitVec.reduceXOr, BitVec.reduceNot, BitVec.reduceNeg, BitVec.reduceHShiftLeft, BitVec.reduceHShiftRight, Nat.reduceAdd, Nat.reduceMul, Nat.reduceSub, Nat.reduceBEq, Nat.reduceEqDiff, Nat.reduceLeDiff, Nat.reduceLT, Int.reduceLE, Int.reduceLT, Int.reduceAdd, Int.reduceSub, Int.reduceMul, Int.reduceNeg, Int.reduceToNat, Int.reduceEq, ↓reduceIte, reduceCtorEq, q0, q1, q2, gn, hn', nm21_len, Int.toNat_natCast, e2]))
                exact ⟨j + 1, by omega, by omega, Wk.wk (Nat.zero_le _) (by simp [Am.get, hl]) (by simp [AV.bel, Sc.bel]) (subH_refl _) (by simp only [List.all_cons, List.all_nil, AObj.scs, nm21_bel, Sc.bel, br]; rfl)⟩
              · have hl : lastK s (j + 1) = lastK s j := by simp only [lastK]; rw [if_neg hn]
                (try simp (config := { maxSteps := 10000000 }) only [go_sem, List.reduceReplicate, BitVec.reduceOfInt, BitVec.reduceToNat, BitVec.reduceToInt, BitVec.reduceEq, BitVec.reduceLT, BitVec.reduceLE, BitVec.reduceAdd, BitVec.reduceSub, BitVec.reduceMul, BitVec.reduceUDiv, BitVec.reduceUMod, BitVec.reduceAnd, BitVec.reduceOr, BitVec.reduceXOr, BitVec.reduceNot, BitVec.reduceNeg, BitVec.reduceHShiftLeft, BitVec.reduceHShiftRight, Nat.reduceAdd, Nat.reduceMul, Nat.reduceSub, Nat.reduceBEq, Nat.reduceEqDiff, Nat.reduceLeDiff, Nat.reduceLT, Int.reduceLE, Int.reduceLT, Int.reduceAdd, Int.reduceSub, Int.reduceMul, Int.reduceNeg, Int.reduceToNat, Int.reduceEq, ↓reduceIte, reduceCtorEq, q0, q1, q2, gn, hn, nm21_len, Int.toNat_natCast, e2]; repeat (simp (disch := omega) only [w64_d, ipos, ineg, dpos, dneg]; try simp (config := { maxSteps := 10000000 }) only [go_sem, List.reduceReplicate, BitVec.reduceOfInt, BitVec.reduceToNat, BitVec.reduceToInt, BitVec.reduceEq, BitVec.reduceLT, BitVec.reduceLE, BitVec.reduceAdd, BitVec.reduceSub, BitVec.reduceMul, BitVec.reduceUDiv, BitVec.reduceUMod, BitVec.reduceAnd, BitVec.reduceOr, BitVec.reduceXOr, BitVec.reduceNot, BitVec.reduceNeg, BitVec.reduceHShiftLeft, BitVec.reduceHShiftRight, Nat.reduceAdd, Nat.reduceMul, Nat.reduceSub, Nat.reduceBEq, Nat.reduceEqDiff, Nat.reduceLeDiff, Nat.reduceLT, Int.reduceLE, Int.reduceLT, Int.reduceAdd, Int.reduceSub, Int.reduceMul, Int.reduceNeg, Int.reduceToNat, Int.reduceEq, ↓reduceIte, reduceCtorEq, q0, q1, q2, gn, hn, nm21_len, Int.toNat_natCast, e2]))
                exact ⟨j + 1, by omega, by omega, Wk.wk (Nat.zero_le _) (by simp [Am.get, hl]) (by simp [AV.bel, Sc.bel]) (subH_refl _) (by simp only [List.all_cons, List.all_nil, AObj.scs, nm21_bel, Sc.bel, br]; rfl)⟩
            · obtain rfl : j = 20 := by omega
              cases hL : isL k c sz
              · (try simp (config := { maxSteps := 10000000 }) only [go_sem, List.reduceReplicate, BitVec.reduceOfInt, BitVec.reduceToNat, BitVec.reduceToInt, BitVec.reduceEq, BitVec.reduceLT, BitVec.reduceLE, BitVec.reduceAdd, BitVec.reduceSub, BitVec.reduceMul, BitVec.reduceUDiv, BitVec.reduceUMod, BitVec.reduceAnd, BitVec.reduceOr, BitVec.reduceXOr, BitVec.reduceNot, BitVec.reduceNeg, BitVec.reduceHShiftLeft, BitVec.reduceHShiftRight, Nat.reduceAdd, Nat.reduceMul, Nat.reduceSub, Nat.reduceBEq, Nat.reduceEqDiff, Nat.reduceLeDiff, Nat.reduceLT, Int.reduceLE, Int.reduceLT, Int.reduceAdd, Int.reduceSub, Int.reduceMul, Int.reduceNeg, Int.reduceToNat, Int.reduceEq, ↓reduceIte, reduceCtorEq, s_elive_eq, s_rnames31_eq, s_efind_eq, s_ename_eq, s_egroup_eq, s_rgroup31_eq, s_elines_eq, s_rlines_eq, f0, f1, hR, hL, lr, rt]; repeat (simp (disch := omega) only [w64_d, ipos, ineg, dpos, dneg]; try simp (config := { maxSteps := 10000000 }) only [go_sem, List.reduceReplicate, BitVec.reduceOfInt, BitVec.reduceToNat, BitVec.reduceToInt, BitVec.reduceEq, BitVec.reduceLT, BitVec.reduceLE, BitVec.reduceAdd, BitVec.reduceSub, BitVec.reduceMul, BitVec.reduceUDiv, BitVec.reduceUMod, BitVec.reduceAnd, BitVec.reduceOr, BitVec.reduceXOr, BitVec.reduceNot, BitVec.reduceNeg, BitVec.reduceHShiftLeft, BitVec.reduceHShiftRight, Nat.reduceAdd, Nat.reduceMul, Nat.reduceSub, Nat.reduceBEq, Nat.reduceEqDiff, Nat.reduceLeDiff, Nat.reduceLT, Int.reduceLE, Int.reduceLT, Int.reduceAdd, Int.reduceSub, Int.reduceMul, Int.reduceNeg, Int.reduceToNat, Int.reduceEq, ↓reduceIte, reduceCtorEq, s_elive_eq, s_rnames31_eq, s_efind_eq, s_ename_eq, s_egroup_eq, s_rgroup31_eq, s_elines_eq, s_rlines_eq, f0, f1, hR, hL, lr, rt]))
                refine ⟨by kernel_rfl, ?_⟩
                refine arun_for 0 (fun _ => ([(13, .c .nils), (14, .c .nils), (15, .c (.i 0))], [])) ?_ fun j hj => ?_
                · exact Wk.wk (Nat.zero_le _) (by simp [Am.get]) (by rfl) trivial (by rfl)
                · (try simp (config := { maxSteps := 10000000 }) only [go_sem, List.reduceReplicate, BitVec.reduceOfInt, BitVec.reduceToNat, BitVec.reduceToInt, BitVec.reduceEq, BitVec.reduceLT, BitVec.reduceLE, BitVec.reduceAdd, BitVec.reduceSub, BitVec.reduceMul, BitVec.reduceUDiv, BitVec.reduceUMod, BitVec.reduceAnd, BitVec.reduceOr, BitVec.reduceXOr, BitVec.reduceNot, BitVec.reduceNeg, BitVec.reduceHShiftLeft, BitVec.reduceHShiftRight, Nat.reduceAdd, Nat.reduceMul, Nat.reduceSub, Nat.reduceBEq, Nat.reduceEqDiff, Nat.reduceLeDiff, Nat.reduceLT, Int.reduceLE, Int.reduceLT, Int.reduceAdd, Int.reduceSub, Int.reduceMul, Int.reduceNeg, Int.reduceToNat, Int.reduceEq, ↓reduceIte, reduceCtorEq, s_elive_eq, s_rnames31_eq, s_efind_eq, s_ename_eq, s_egroup_eq, s_rgroup31_eq, s_elines_eq, s_rlines_eq]; repeat (simp (disch := omega) only [w64_d, ipos, ineg, dpos, dneg]; try simp (config := { maxSteps := 10000000 }) only [go_sem, List.reduceReplicate, BitVec.reduceOfInt, BitVec.reduceToNat, BitVec.reduceToInt, BitVec.reduceEq, BitVec.reduceLT, BitVec.reduceLE, BitVec.reduceAdd, BitVec.reduceSub, BitVec.reduceMul, BitVec.reduceUDiv, BitVec.reduceUMod, BitVec.reduceAnd, BitVec.reduceOr, BitVec.reduceXOr, BitVec.reduceNot, BitVec.reduceNeg, BitVec.reduceHShiftLeft, BitVec.reduceHShiftRight, Nat.reduceAdd, Nat.reduceMul, Nat.reduceSub, Nat.reduceBEq, Nat.reduceEqDiff, Nat.reduceLeDiff, Nat.reduceLT, Int.reduceLE, Int.reduceLT, Int.reduceAdd, Int.reduceSub, Int.reduceMul, Int.reduceNeg, Int.reduceToNat, Int.reduceEq, ↓reduceIte, reduceCtorEq, s_elive_eq, s_rnames31_eq, s_efind_eq, s_ename_eq, s_egroup_eq, s_rgroup31_eq, s_elines_eq, s_rlines_eq]))
              · have eD := lines_same (a := a) (b := b) hL
                have dl : (ddp (srt ltU (linL a b c sz))).length ≤ (srt ltU (linL a b c sz)).length := ddN_le
                rw [srt_len] at dl
                have eC : cmpCU (srt ltU (linL a b c sz)) = (setB (byteU a b c) sz.toNat).map gU ++ List.replicate ((srt ltU (linL a b c sz)).length - (setB (byteU a b c) sz.toNat).length) (gU 0#64) := by unfold cmpCU; rw [eD]
                have lC : (cmpCU (srt ltU (linL a b c sz))).length = (linL a b c sz).length := by
                  have := @srt_len _ ltU (linL a b c sz)
                  simp [cmpCU]; omega
                have l4 := @accP_le a b c sz
                rw [← linL_len] at l4
                have e2 := fun H => s_elines_eq (k := k) (a := a) (b := b) (c := c) (s := sz) (H := H) hR
                have e3 := fun H => s_rlines_eq (k := k) (a := a) (b := b) (c := c) (s := sz) (H := H) hR
                rw [eD] at dl
                simp only [eD, eC, hL, if_true] at e2 e3
                generalize List.replicate ((srt ltU (linL a b c sz)).length - (setB (byteU a b c) sz.toNat).length) (gU 0#64) = R at *
                generalize setB (byteU a b c) sz.toNat = D at *
                have cb : ∀ n, (D.map gU ++ R).all (Sc.bel n) = true := fun n => by rw [← eC]; exact cmpCU_bel
                rw [eC] at lC
                generalize linL a b c sz = A at *
                (try simp (config := { maxSteps := 10000000 }) only [go_sem, List.reduceReplicate, BitVec.reduceOfInt, BitVec.reduceToNat, BitVec.reduceToInt, BitVec.reduceEq, BitVec.reduceLT, BitVec.reduceLE, BitVec.reduceAdd, BitVec.reduceSub, BitVec.reduceMul, BitVec.reduceUDiv, BitVec.reduceUMod, BitVec.reduceAnd, BitVec.reduceOr, BitVec.reduceXOr, BitVec.reduceNot, BitVec.reduceNeg, BitVec.reduceHShiftLeft, BitVec.reduceHShiftRight, Nat.reduceAdd, Nat.reduceMul, Nat.reduceSub, Nat.reduceBEq, Nat.reduceEqDiff, Nat.reduceLeDiff, Nat.reduceLT, Int.reduceLE, Int.reduceLT, Int.reduceAdd, Int.reduceSub, Int.reduceMul, Int.reduceNeg, Int.reduceToNat, Int.reduceEq, ↓reduceIte, reduceCtorEq, s_elive_eq, s_ename_eq, s_egroup_eq, s_rgroup31_eq, s_efind_eq, f0, f1, lr, rt, e2, e3]; repeat (simp (disch := omega) only [w64_d, ipos, ineg, dpos, dneg]; try simp (config := { maxSteps := 10000000 }) only [go_sem, List.reduceReplicate, BitVec.reduceOfInt, BitVec.reduceToNat, BitVec.reduceToInt, BitVec.reduceEq, BitVec.reduceLT, BitVec.reduceLE, BitVec.reduceAdd, BitVec.reduceSub, BitVec.reduceMul, BitVec.reduceUDiv, BitVec.reduceUMod, BitVec.reduceAnd, BitVec.reduceOr, BitVec.reduceXOr, BitVec.reduceNot, BitVec.reduceNeg, BitVec.reduceHShiftLeft, BitVec.reduceHShiftRight, Nat.reduceAdd, Nat.reduceMul, Nat.reduceSub, Nat.reduceBEq, Nat.reduceEqDiff, Nat.reduceLeDiff, Nat.reduceLT, Int.reduceLE, Int.reduceLT, Int.reduceAdd, Int.reduceSub, Int.reduceMul, Int.reduceNeg, Int.reduceToNat, Int.reduceEq, ↓reduceIte, reduceCtorEq, s_elive_eq, s_ename_eq, s_egroup_eq, s_rgroup31_eq, s_efind_eq, f0, f1, lr, rt, e2, e3]))
                refine ⟨by kernel_rfl, ?_⟩
                refine arun_for D.length (fun k => ([(13, .c (.sl 2 0 A.length D.length)), (14, .c (.sl 3 0 D.length D.length)), (15, .c (.i k))], [.dead, .dead, .vec 1 (D.map gU ++ R), .vec 1 (D.map gU)])) ?_ fun k hk => ?_
                · exact Wk.wk (Nat.zero_le _) (by simp [Am.get]) (by simp [AV.bel, Sc.bel]) ⟨.inl rfl, .inl rfl, .inr rfl, .inr rfl, trivial⟩ (by simp only [List.all_cons, List.all_nil, AObj.scs, map_bel gU_num, cb]; rfl)
                · by_cases hlt : k < D.length
                  · obtain ⟨x, hx⟩ : ∃ x, D[k]? = some x := ⟨_, List.getElem?_eq_getElem hlt⟩
                    have e1 : w64 ((k : Int) + 1) = ((k + 1 : Nat) : Int) := by rw [w64_d (by omega) (by omega)]; omega
                    have c1 := map_getD (g := gU) hx
                    have c2 : (D.map gU ++ R).getD k .any = gU x := by rw [List.getD_eq_getElem?_getD, List.getElem?_append_left (by simpa using hlt), ← List.getD_eq_getElem?_getD]; exact c1
                    have q1 : k + 1 ≤ A.length := by omega
                    have q2 : k + 1 ≤ D.length := by omega
                    rw [List.length_append, List.length_map] at lC
                    (try simp (config := { maxSteps := 10000000 }) only [go_sem, List.reduceReplicate, BitVec.reduceOfInt, BitVec.reduceToNat, BitVec.reduceToInt, BitVec.reduceEq, BitVec.reduceLT, BitVec.reduceLE, BitVec.reduceAdd, BitVec.reduceSub, BitVec.reduceMul, BitVec.reduceUDiv, BitVec.reduceUMod, BitVec.reduceAnd, BitVec.reduceOr, BitVec.reduceXOr, BitVec.reduceNot, BitVec.reduceNeg, BitVec.reduceHShiftLeft, BitVec.reduceHShiftRight, Nat.reduceAdd, Nat.reduceMul, Nat.reduceSub, Nat.reduceBEq, Nat.reduceEqDiff, Nat.reduceLeDiff, Nat.reduceLT, Int.reduceLE, Int.reduceLT, Int.reduceAdd, Int.reduceSub, Int.reduceMul, Int.reduceNeg, Int.reduceToNat, Int.reduceEq, ↓reduceIte, reduceCtorEq, e1, c1, c2, gU, q1, q2, lC, List.length_map]; repeat (simp (disch := omega) only [w64_d, ipos, ineg, dpos, dneg]; try simp (config := { maxSteps := 10000000 }) only [go_sem, List.reduceReplicate, BitVec.reduceOfInt, BitVec.reduceToNat, BitVec.reduceToInt, BitVec.reduceEq, BitVec.reduceLT, BitVec.reduceLE, BitVec.reduceAdd, BitVec.reduceSub, BitVec.reduceMul, BitVec.reduceUDiv, BitVec.reduceUMod, BitVec.reduceAnd, BitVec.reduceOr, BitVec.reduceXOr, BitVec.reduceNot, BitVec.reduceNeg, BitVec.reduceHShiftLeft, BitVec.reduceHShiftRight, Nat.reduceAdd, Nat.reduceMul, Nat.reduceSub, Nat.reduceBEq, Nat.reduceEqDiff, Nat.reduceLeDiff, Nat.reduceLT, Int.reduceLE, Int.reduceLT, Int.reduceAdd, Int.reduceSub, Int.reduceMul, Int.reduceNeg, Int.reduceToNat, Int.reduceEq, ↓reduceIte, reduceCtorEq, e1, c1, c2, gU, q1, q2, lC, List.length_map]))
                    exact ⟨k + 1, by omega, by omega, Wk.wk (Nat.zero_le _) (by simp [Am.get]) (by simp [AV.bel, Sc.bel]) (subH_refl _) (by simp only [List.all_cons, List.all_nil, AObj.scs, map_bel gU_num, cb]; rfl)⟩
                  · obtain rfl : k = D.length := by omega
                    (try simp (config := { maxSteps := 10000000 }) only [go_sem, List.reduceReplicate, BitVec.reduceOfInt, BitVec.reduceToNat, BitVec.reduceToInt, BitVec.reduceEq, BitVec.reduceLT, BitVec.reduceLE, BitVec.reduceAdd, BitVec.reduceSub, BitVec.reduceMul, BitVec.reduceUDiv, BitVec.reduceUMod, BitVec.reduceAnd, BitVec.reduceOr, BitVec.reduceXOr, BitVec.reduceNot, BitVec.reduceNeg, BitVec.reduceHShiftLeft, BitVec.reduceHShiftRight, Nat.reduceAdd, Nat.reduceMul, Nat.reduceSub, Nat.reduceBEq, Nat.reduceEqDiff, Nat.reduceLeDiff, Nat.reduceLT, Int.reduceLE, Int.reduceLT, Int.reduceAdd, Int.reduceSub, Int.reduceMul, Int.reduceNeg, Int.reduceToNat, Int.reduceEq, ↓reduceIte, reduceCtorEq, s_elive_eq]; repeat (simp (disch := omega) only [w64_d, ipos, ineg, dpos, dneg]; try simp (config := { maxSteps := 10000000 }) only [go_sem, List.reduceReplicate, BitVec.reduceOfInt, BitVec.reduceToNat, BitVec.reduceToInt, BitVec.reduceEq, BitVec.reduceLT, BitVec.reduceLE, BitVec.reduceAdd, BitVec.reduceSub, BitVec.reduceMul, BitVec.reduceUDiv, BitVec.reduceUMod, BitVec.reduceAnd, BitVec.reduceOr, BitVec.reduceXOr, BitVec.reduceNot, BitVec.reduceNeg, BitVec.reduceHShiftLeft, BitVec.reduceHShiftRight, Nat.reduceAdd, Nat.reduceMul, Nat.reduceSub, Nat.reduceBEq, Nat.reduceEqDiff, Nat.reduceLeDiff, Nat.reduceLT, Int.reduceLE, Int.reduceLT, Int.reduceAdd, Int.reduceSub, Int.reduceMul, Int.reduceNeg, Int.reduceToNat, Int.reduceEq, ↓reduceIte, reduceCtorEq, s_elive_eq]))
      · have s0 : (30 : Int) < (s.size : Int) := by omega
        (try simp (config := { maxSteps := 10000000 }) only [go_sem, List.reduceReplicate, BitVec.reduceOfInt, BitVec.reduceToNat, BitVec.reduceToInt, BitVec.reduceEq, BitVec.reduceLT, BitVec.reduceLE, BitVec.reduceAdd, BitVec.reduceSub, BitVec.reduceMul, BitVec.reduceUDiv, BitVec.reduceUMod, BitVec.reduceAnd, BitVec.reduceOr, BitVec.reduceXOr, BitVec.reduceNot, BitVec.reduceNeg, BitVec.reduceHShiftLeft, BitVec.reduceHShiftRight, Nat.reduceAdd, Nat.reduceMul, Nat.reduceSub, Nat.reduceBEq, Nat.reduceEqDiff, Nat.reduceLeDiff, Nat.reduceLT, Int.reduceLE, Int.reduceLT, Int.reduceAdd, Int.reduceSub, Int.reduceMul, Int.reduceNeg, Int.reduceToNat, Int.reduceEq, ↓reduceIte, reduceCtorEq, s_elive_eq, s_rnames31_eq, s_efind_eq, s_ename_eq, s_egroup_eq, s_rgroup31_eq, s_elines_eq, s_rlines_eq, s0]; repeat (simp (disch := omega) only [w64_d, ipos, ineg, dpos, dneg]; try simp (config := { maxSteps := 10000000 }) only [go_sem, List.reduceReplicate, BitVec.reduceOfInt, BitVec.reduceToNat, BitVec.reduceToInt, BitVec.reduceEq, BitVec.reduceLT, BitVec.reduceLE, BitVec.reduceAdd, BitVec.reduceSub, BitVec.reduceMul, BitVec.reduceUDiv, BitVec.reduceUMod, BitVec.reduceAnd, BitVec.reduceOr, BitVec.reduceXOr, BitVec.reduceNot, BitVec.reduceNeg, BitVec.reduceHShiftLeft, BitVec.reduceHShiftRight, Nat.reduceAdd, Nat.reduceMul, Nat.reduceSub, Nat.reduceBEq, Nat.reduceEqDiff, Nat.reduceLeDiff, Nat.reduceLT, Int.reduceLE, Int.reduceLT, Int.reduceAdd, Int.reduceSub, Int.reduceMul, Int.reduceNeg, Int.reduceToNat, Int.reduceEq, ↓reduceIte, reduceCtorEq, s_elive_eq, s_rnames31_eq, s_efind_eq, s_ename_eq, s_egroup_eq, s_rgroup31_eq, s_elines_eq, s_rlines_eq, s0]))
    · simp at h
  · simp at h

theorem sig_ekinds (avs : List AV) (H : AH) (h : SigA [.fl false [.n .i64], .fl true ksAsk, .fl false [.s]] avs H) : s_ekinds avs = some (.c (.b true)) := by
  obtain ⟨s0, r0, rfl, k0, h1⟩ := sig_c h
  obtain ⟨x, rfl, lo, hi⟩ := fk_i k0
  obtain ⟨l1, r1, rfl, g1, h2⟩ := sig_g h1
  obtain ⟨s2, r2, rfl, k2, h3⟩ := sig_c h2
  obtain ⟨t, rfl, sz⟩ := fk_s k2
  obtain rfl := sig_nil h3
  rw [s_ekinds_eq, if_pos ⟨⟨lo, hi⟩, g1⟩]
end
end Go.Proofs.Ytamjmjllgmachaa
