/- The laws of layer 8. -/
import Derived.Test.YtabmgcfeblclgaaM1
namespace Go.Proofs.Ytabmgcfeblclgaa
open Go.Am
set_option linter.unusedSimpArgs false
set_option linter.unusedVariables false
noncomputable section

theorem wide_s {op : Int} (h : classI op = 7) : sizeI op * 8 = sizeA op := by
  have h' := h
  rw [class_7] at h
  obtain ⟨k, rfl⟩ := Int.eq_ofNat_of_zero_le (by omega : 0 ≤ op)
  have : ∀ k : Nat, k < 99 → classI k = 7 → sizeI k * 8 = sizeA k := by decide +kernel
  exact this k (by omega) h'
def s_rloaded8 (args : List AV) : Option AV :=
  match args with
  | [.c (.i op), .c (.u m)] => some (.c (.u (loadU op m)))
  | _ => none
theorem s_rloaded8_eq {op m} : s_rloaded8 [.c (.i op), .c (.u m)] = some (.c (.u (loadU op m))) := rfl
set_option maxRecDepth 100000 in
set_option maxHeartbeats 2000000 in
theorem ok_rloaded8 : PuOk Try.prog 12 s_rloaded8 := by
  refine pu_ok (tab := [(7, .pu s_ris8), (20, .pu s_rsize), (23, .pu s_rsign)]) hmix (TabOk.cons (e := .pu s_ris8) ok_ris8 (TabOk.cons (e := .pu s_rsize) ok_rsize (TabOk.cons (e := .pu s_rsign) ok_rsign TabOk.nil))) Try.func12 rfl Try.results12 Try.ntmps12 (by kernel_rfl) (by kernel_rfl) ?_
  intro args v h
  unfold s_rloaded8 at h
  split at h
  · rename_i op m
    simp only [Option.some.injEq] at h; subst h
    refine ⟨by simp only [List.length_cons, List.length_nil]; decide, rfl, rfl, ?_⟩
    have key : (isI op = 0) = ¬ (classI op = 7) := by
      apply propext
      unfold isI
      by_cases h : classI op = 7
      · rw [if_pos h]; simp only [h]; split
        · simp
        · split <;> simp
      · simp [h]
    by_cases h : classI op = 7
    · have e2 := wide_s h
      have e4 : w64 (8 * sizeI op) = sizeA op := by
        rcases size_or op with e | e <;> rw [e] at e2 ⊢ <;> rw [w64_of (by omega)] <;> omega
      have i1 : inR (sizeA op) := by rcases size_or op with e | e <;> rw [e] <;> exact ⟨by omega, by omega⟩
      (try simp (config := { maxSteps := 10000000 }) only [go_sem, List.reduceReplicate, BitVec.reduceOfInt, BitVec.reduceToNat, BitVec.reduceToInt, BitVec.reduceEq, BitVec.reduceLT, BitVec.reduceLE, BitVec.reduceAdd, BitVec.reduceSub, BitVec.reduceMul, BitVec.reduceUDiv, BitVec.reduceUMod, BitVec.reduceAnd, BitVec.reduceOr, BitVec.reduceXOr, BitVec.reduceNot, BitVec.reduceNeg, BitVec.reduceHShiftLeft, BitVec.reduceHShiftRight, Nat.reduceAdd, Nat.reduceMul, Nat.reduceSub, Nat.reduceBEq, Nat.reduceEqDiff, Nat.reduceLeDiff, Nat.reduceLT, Int.reduceLE, Int.reduceLT, Int.reduceAdd, Int.reduceSub, Int.reduceMul, Int.reduceNeg, Int.reduceToNat, Int.reduceEq, ↓reduceIte, reduceCtorEq, s_ris8_eq, s_rsize_eq, s_rsign_eq, key, h, e4, i1, loadU]; repeat (simp (disch := omega) only [w64_d, ipos, ineg, dpos, dneg]; try simp (config := { maxSteps := 10000000 }) only [go_sem, List.reduceReplicate, BitVec.reduceOfInt, BitVec.reduceToNat, BitVec.reduceToInt, BitVec.reduceEq, BitVec.reduceLT, BitVec.reduceLE, BitVec.reduceAdd, BitVec.reduceSub, BitVec.reduceMul, BitVec.reduceUDiv, BitVec.reduceUMod, BitVec.reduceAnd, BitVec.reduceOr, BitVec.reduceXOr, BitVec.reduceNot, BitVec.reduceNeg, BitVec.reduceHShiftLeft, BitVec.reduceHShiftRight, Nat.reduceAdd, Nat.reduceMul, Nat.reduceSub, Nat.reduceBEq, Nat.reduceEqDiff, Nat.reduceLeDiff, Nat.reduceLT, Int.reduceLE, Int.reduceLT, Int.reduceAdd, Int.reduceSub, Int.reduceMul, Int.reduceNeg, Int.reduceToNat, Int.reduceEq, ↓reduceIte, reduceCtorEq, s_ris8_eq, s_rsize_eq, s_rsign_eq, key, h, e4, i1, loadU]))
    · (try simp (config := { maxSteps := 10000000 }) only [go_sem, List.reduceReplicate, BitVec.reduceOfInt, BitVec.reduceToNat, BitVec.reduceToInt, BitVec.reduceEq, BitVec.reduceLT, BitVec.reduceLE, BitVec.reduceAdd, BitVec.reduceSub, BitVec.reduceMul, BitVec.reduceUDiv, BitVec.reduceUMod, BitVec.reduceAnd, BitVec.reduceOr, BitVec.reduceXOr, BitVec.reduceNot, BitVec.reduceNeg, BitVec.reduceHShiftLeft, BitVec.reduceHShiftRight, Nat.reduceAdd, Nat.reduceMul, Nat.reduceSub, Nat.reduceBEq, Nat.reduceEqDiff, Nat.reduceLeDiff, Nat.reduceLT, Int.reduceLE, Int.reduceLT, Int.reduceAdd, Int.reduceSub, Int.reduceMul, Int.reduceNeg, Int.reduceToNat, Int.reduceEq, ↓reduceIte, reduceCtorEq, s_ris8_eq, s_rsize_eq, s_rsign_eq, key, h, loadU]; repeat (simp (disch := omega) only [w64_d, ipos, ineg, dpos, dneg]; try simp (config := { maxSteps := 10000000 }) only [go_sem, List.reduceReplicate, BitVec.reduceOfInt, BitVec.reduceToNat, BitVec.reduceToInt, BitVec.reduceEq, BitVec.reduceLT, BitVec.reduceLE, BitVec.reduceAdd, BitVec.reduceSub, BitVec.reduceMul, BitVec.reduceUDiv, BitVec.reduceUMod, BitVec.reduceAnd, BitVec.reduceOr, BitVec.reduceXOr, BitVec.reduceNot, BitVec.reduceNeg, BitVec.reduceHShiftLeft, BitVec.reduceHShiftRight, Nat.reduceAdd, Nat.reduceMul, Nat.reduceSub, Nat.reduceBEq, Nat.reduceEqDiff, Nat.reduceLeDiff, Nat.reduceLT, Int.reduceLE, Int.reduceLT, Int.reduceAdd, Int.reduceSub, Int.reduceMul, Int.reduceNeg, Int.reduceToNat, Int.reduceEq, ↓reduceIte, reduceCtorEq, s_ris8_eq, s_rsize_eq, s_rsign_eq, key, h, loadU]))
  · simp at h
theorem live_8 : amoU 70 4294967295#64 2#64 = 1#64 ∧ isAB 70 = true ∧ amoU 75 2147483648#64 1#64 = 1#64 ∧ isAB 75 = true ∧ loadU 73 2147483648#64 = 18446744071562067968#64 := by
  refine ⟨?_, by decide, ?_, by decide, ?_⟩
  · rw [amoU, if_pos (by decide), show wideN 70 = 81 by decide, show sizeA 70 = 32 by decide]
    simp only [amoV, show ¬ ((81 : Int) = 80) by decide, if_false, if_true]
    unfold lowU; simp only [ofG_eqn]; decide +kernel
  · rw [amoU, if_pos (by decide), show wideN 75 = 86 by decide, show sizeA 75 = 32 by decide]
    simp only [amoV]
    unfold lowU signU; simp only [ofG_eqn]; decide +kernel
  · rw [loadU, if_pos (by decide), show sizeA 73 = 32 by decide]
    unfold signU; simp only [ofG_eqn]; decide +kernel
def s_live8 (args : List AV) : Option AV :=
  match args with
  | [] => some (.c (.b true))
  | _ => none
theorem s_live8_eq : s_live8 [] = some (.c (.b true)) := rfl
set_option maxRecDepth 100000 in
set_option maxHeartbeats 2000000 in
theorem ok_live8 : PuOk Try.prog 13 s_live8 := by
  refine pu_ok (tab := [(5, .pu s_amoDo), (11, .pu s_loaded)]) hmix (TabOk.cons (e := .pu s_amoDo) ok_amoDo (TabOk.cons (e := .pu s_loaded) ok_loaded TabOk.nil)) Try.func13 rfl Try.results13 Try.ntmps13 (by kernel_rfl) (by kernel_rfl) ?_
  intro args v h
  unfold s_live8 at h
  split at h
  · simp only [Option.some.injEq] at h; subst h
    refine ⟨by simp only [List.length_cons, List.length_nil]; decide, rfl, rfl, ?_⟩
    obtain ⟨h1, h2, h3, h4, h5⟩ := live_8
    (try simp (config := { maxSteps := 10000000 }) only [go_sem, List.reduceReplicate, BitVec.reduceOfInt, BitVec.reduceToNat, BitVec.reduceToInt, BitVec.reduceEq, BitVec.reduceLT, BitVec.reduceLE, BitVec.reduceAdd, BitVec.reduceSub, BitVec.reduceMul, BitVec.reduceUDiv, BitVec.reduceUMod, BitVec.reduceAnd, BitVec.reduceOr, BitVec.reduceXOr, BitVec.reduceNot, BitVec.reduceNeg, BitVec.reduceHShiftLeft, BitVec.reduceHShiftRight, Nat.reduceAdd, Nat.reduceMul, Nat.reduceSub, Nat.reduceBEq, Nat.reduceEqDiff, Nat.reduceLeDiff, Nat.reduceLT, Int.reduceLE, Int.reduceLT, Int.reduceAdd, Int.reduceSub, Int.reduceMul, Int.reduceNeg, Int.reduceToNat, Int.reduceEq, ↓reduceIte, reduceCtorEq, s_amoDo_eq, s_loaded_eq, h1, h2, h3, h4, h5]; repeat (simp (disch := omega) only [w64_d, ipos, ineg, dpos, dneg]; try simp (config := { maxSteps := 10000000 }) only [go_sem, List.reduceReplicate, BitVec.reduceOfInt, BitVec.reduceToNat, BitVec.reduceToInt, BitVec.reduceEq, BitVec.reduceLT, BitVec.reduceLE, BitVec.reduceAdd, BitVec.reduceSub, BitVec.reduceMul, BitVec.reduceUDiv, BitVec.reduceUMod, BitVec.reduceAnd, BitVec.reduceOr, BitVec.reduceXOr, BitVec.reduceNot, BitVec.reduceNeg, BitVec.reduceHShiftLeft, BitVec.reduceHShiftRight, Nat.reduceAdd, Nat.reduceMul, Nat.reduceSub, Nat.reduceBEq, Nat.reduceEqDiff, Nat.reduceLeDiff, Nat.reduceLT, Int.reduceLE, Int.reduceLT, Int.reduceAdd, Int.reduceSub, Int.reduceMul, Int.reduceNeg, Int.reduceToNat, Int.reduceEq, ↓reduceIte, reduceCtorEq, s_amoDo_eq, s_loaded_eq, h1, h2, h3, h4, h5]))
  · simp at h
theorem isI_2 {op : Int} : (isI op = 2) = (linkB op = true) := by
  apply propext
  have k : linkB op = true → classI op = 7 := by rw [class_7]; unfold linkB; repeat' split
                                                 all_goals simp
                                                 all_goals omega
  unfold isI
  by_cases h : classI op = 7
  · rw [if_pos h]; split
    · simp_all
    · simp_all; split <;> simp
  · rw [if_neg h]; simp; cases e : linkB op
    · rfl
    · exact (h (k e)).elim
theorem isI_3 {op : Int} : (isI op = 3) = (condB op = true) := by
  apply propext
  have k : condB op = true → classI op = 7 ∧ linkB op = false := by rw [class_7]; unfold condB linkB; repeat' split
                                                                    all_goals simp
                                                                    all_goals omega
  unfold isI
  by_cases h : classI op = 7
  · rw [if_pos h]; split
    · rename_i h1; simp; cases e : condB op
      · rfl
      · have := (k e).2; simp_all
    · split <;> simp_all
  · rw [if_neg h]; simp; cases e : condB op
    · rfl
    · exact (h (k e).1).elim
theorem dq {p : Prop} [Decidable p] {q : Bool} (h : p = (q = true)) : decide p = q := by cases q <;> simp_all
def s_amoDoes (args : List AV) : Option AV :=
  match args with
  | [.c (.i op), .c (.u m), .c (.u x)] => some (.c (.b true))
  | _ => none
theorem s_amoDoes_eq {op m x} : s_amoDoes [.c (.i op), .c (.u m), .c (.u x)] = some (.c (.b true)) := rfl
set_option maxRecDepth 100000 in
set_option maxHeartbeats 2000000 in
theorem ok_amoDoes : PuOk Try.prog 3 s_amoDoes := by
  refine pu_ok (tab := [(5, .pu s_amoDo), (6, .pu s_rdo8), (7, .pu s_ris8), (8, .pu s_aisA), (9, .pu s_alink), (10, .pu s_acond), (11, .pu s_loaded), (12, .pu s_rloaded8), (13, .pu s_live8)]) hmix (TabOk.cons (e := .pu s_amoDo) ok_amoDo (TabOk.cons (e := .pu s_rdo8) ok_rdo8 (TabOk.cons (e := .pu s_ris8) ok_ris8 (TabOk.cons (e := .pu s_aisA) ok_aisA (TabOk.cons (e := .pu s_alink) ok_alink (TabOk.cons (e := .pu s_acond) ok_acond (TabOk.cons (e := .pu s_loaded) ok_loaded (TabOk.cons (e := .pu s_rloaded8) ok_rloaded8 (TabOk.cons (e := .pu s_live8) ok_live8 TabOk.nil))))))))) Try.func3 rfl Try.results3 Try.ntmps3 (by kernel_rfl) (by kernel_rfl) ?_
  intro args v h
  unfold s_amoDoes at h
  split at h
  · rename_i op m x
    simp only [Option.some.injEq] at h; subst h
    refine ⟨by simp only [List.length_cons, List.length_nil]; decide, rfl, rfl, ?_⟩
    (try simp (config := { maxSteps := 10000000 }) only [go_sem, List.reduceReplicate, BitVec.reduceOfInt, BitVec.reduceToNat, BitVec.reduceToInt, BitVec.reduceEq, BitVec.reduceLT, BitVec.reduceLE, BitVec.reduceAdd, BitVec.reduceSub, BitVec.reduceMul, BitVec.reduceUDiv, BitVec.reduceUMod, BitVec.reduceAnd, BitVec.reduceOr, BitVec.reduceXOr, BitVec.reduceNot, BitVec.reduceNeg, BitVec.reduceHShiftLeft, BitVec.reduceHShiftRight, Nat.reduceAdd, Nat.reduceMul, Nat.reduceSub, Nat.reduceBEq, Nat.reduceEqDiff, Nat.reduceLeDiff, Nat.reduceLT, Int.reduceLE, Int.reduceLT, Int.reduceAdd, Int.reduceSub, Int.reduceMul, Int.reduceNeg, Int.reduceToNat, Int.reduceEq, ↓reduceIte, reduceCtorEq, s_amoDo_eq, s_rdo8_eq, s_ris8_eq, s_aisA_eq, s_alink_eq, s_acond_eq, s_loaded_eq, s_rloaded8_eq, s_live8_eq, dq isI_1, dq isI_2, dq isI_3]; repeat (simp (disch := omega) only [w64_d, ipos, ineg, dpos, dneg]; try simp (config := { maxSteps := 10000000 }) only [go_sem, List.reduceReplicate, BitVec.reduceOfInt, BitVec.reduceToNat, BitVec.reduceToInt, BitVec.reduceEq, BitVec.reduceLT, BitVec.reduceLE, BitVec.reduceAdd, BitVec.reduceSub, BitVec.reduceMul, BitVec.reduceUDiv, BitVec.reduceUMod, BitVec.reduceAnd, BitVec.reduceOr, BitVec.reduceXOr, BitVec.reduceNot, BitVec.reduceNeg, BitVec.reduceHShiftLeft, BitVec.reduceHShiftRight, Nat.reduceAdd, Nat.reduceMul, Nat.reduceSub, Nat.reduceBEq, Nat.reduceEqDiff, Nat.reduceLeDiff, Nat.reduceLT, Int.reduceLE, Int.reduceLT, Int.reduceAdd, Int.reduceSub, Int.reduceMul, Int.reduceNeg, Int.reduceToNat, Int.reduceEq, ↓reduceIte, reduceCtorEq, s_amoDo_eq, s_rdo8_eq, s_ris8_eq, s_aisA_eq, s_alink_eq, s_acond_eq, s_loaded_eq, s_rloaded8_eq, s_live8_eq, dq isI_1, dq isI_2, dq isI_3]))
  · simp at h
def s_do8 (args : List AV) : Option AV :=
  match args with
  | [.c (.i op), .c (.u m), .c (.u x)] => some (.c (.u (amoU op m x)))
  | _ => none
theorem s_do8_eq {op m x} : s_do8 [.c (.i op), .c (.u m), .c (.u x)] = some (.c (.u (amoU op m x))) := rfl
set_option maxRecDepth 100000 in
set_option maxHeartbeats 2000000 in
theorem ok_do8 : PuOk Try.prog 14 s_do8 := by
  refine pu_ok (tab := [(5, .pu s_amoDo)]) hmix (TabOk.cons (e := .pu s_amoDo) ok_amoDo TabOk.nil) Try.func14 rfl Try.results14 Try.ntmps14 (by kernel_rfl) (by kernel_rfl) ?_
  intro args v h
  unfold s_do8 at h
  split at h
  · rename_i op m x
    simp only [Option.some.injEq] at h; subst h
    refine ⟨by simp only [List.length_cons, List.length_nil]; decide, rfl, rfl, ?_⟩
    (try simp (config := { maxSteps := 10000000 }) only [go_sem, List.reduceReplicate, BitVec.reduceOfInt, BitVec.reduceToNat, BitVec.reduceToInt, BitVec.reduceEq, BitVec.reduceLT, BitVec.reduceLE, BitVec.reduceAdd, BitVec.reduceSub, BitVec.reduceMul, BitVec.reduceUDiv, BitVec.reduceUMod, BitVec.reduceAnd, BitVec.reduceOr, BitVec.reduceXOr, BitVec.reduceNot, BitVec.reduceNeg, BitVec.reduceHShiftLeft, BitVec.reduceHShiftRight, Nat.reduceAdd, Nat.reduceMul, Nat.reduceSub, Nat.reduceBEq, Nat.reduceEqDiff, Nat.reduceLeDiff, Nat.reduceLT, Int.reduceLE, Int.reduceLT, Int.reduceAdd, Int.reduceSub, Int.reduceMul, Int.reduceNeg, Int.reduceToNat, Int.reduceEq, ↓reduceIte, reduceCtorEq, s_amoDo_eq]; repeat (simp (disch := omega) only [w64_d, ipos, ineg, dpos, dneg]; try simp (config := { maxSteps := 10000000 }) only [go_sem, List.reduceReplicate, BitVec.reduceOfInt, BitVec.reduceToNat, BitVec.reduceToInt, BitVec.reduceEq, BitVec.reduceLT, BitVec.reduceLE, BitVec.reduceAdd, BitVec.reduceSub, BitVec.reduceMul, BitVec.reduceUDiv, BitVec.reduceUMod, BitVec.reduceAnd, BitVec.reduceOr, BitVec.reduceXOr, BitVec.reduceNot, BitVec.reduceNeg, BitVec.reduceHShiftLeft, BitVec.reduceHShiftRight, Nat.reduceAdd, Nat.reduceMul, Nat.reduceSub, Nat.reduceBEq, Nat.reduceEqDiff, Nat.reduceLeDiff, Nat.reduceLT, Int.reduceLE, Int.reduceLT, Int.reduceAdd, Int.reduceSub, Int.reduceMul, Int.reduceNeg, Int.reduceToNat, Int.reduceEq, ↓reduceIte, reduceCtorEq, s_amoDo_eq]))
  · simp at h
/-- one that is chosen by a key -/
def selB {α : Type} (κ : α → Int) (mx : Bool) (a b : α) : α := if (decide (κ b < κ a)) = mx then a else b
theorem sel_twice {α : Type} (κ : α → Int) (mx : Bool) (a b : α) (inj : κ a = κ b → a = b) : selB κ mx (selB κ mx a b) b = selB κ mx a b := by
  unfold selB
  by_cases h : κ b < κ a
  · cases mx <;> simp [h]
  · cases mx <;> simp [h]
theorem sel_comm {α : Type} (κ : α → Int) (mx : Bool) (a b c : α) (i1 : κ b = κ c → b = c) (i2 : κ a = κ b → a = b) (i3 : κ a = κ c → a = c) : selB κ mx (selB κ mx a b) c = selB κ mx (selB κ mx a c) b := by
  unfold selB
  rcases Int.lt_trichotomy (κ a) (κ b) with h | h | h
  · rcases Int.lt_trichotomy (κ a) (κ c) with g | g | g
    · rcases Int.lt_trichotomy (κ b) (κ c) with f | f | f
      · cases mx <;> simp [show ¬ κ b < κ a by omega, show ¬ κ c < κ a by omega, show ¬ κ c < κ b by omega, f]
      · obtain rfl := i1 f; rfl
      · cases mx <;> simp [show ¬ κ b < κ a by omega, show ¬ κ c < κ a by omega, show ¬ κ b < κ c by omega, f]
    · obtain rfl := i3 g
      cases mx <;> simp [show ¬ κ b < κ a by omega, h]
    · cases mx <;> simp [show ¬ κ b < κ a by omega, show κ c < κ a by omega, show κ c < κ b by omega, show ¬ κ b < κ c by omega]
  · obtain rfl := i2 h
    rcases Int.lt_trichotomy (κ a) (κ c) with g | g | g
    · cases mx <;> simp [g, show ¬ κ c < κ a by omega]
    · obtain rfl := i3 g
      cases mx <;> simp
    · cases mx <;> simp [g, show ¬ κ a < κ c by omega]
  · rcases Int.lt_trichotomy (κ a) (κ c) with g | g | g
    · cases mx <;> simp [h, show ¬ κ c < κ a by omega, show ¬ κ c < κ b by omega, show κ b < κ c by omega]
    · obtain rfl := i3 g
      cases mx <;> simp [h, show ¬ κ a < κ b by omega]
    · rcases Int.lt_trichotomy (κ b) (κ c) with f | f | f
      · cases mx <;> simp [h, g, show ¬ κ c < κ b by omega, f]
      · obtain rfl := i1 f; rfl
      · cases mx <;> simp [h, g, show ¬ κ b < κ c by omega, f]
/-- the key of signed ones, and of others -/
def keyS (s : Int) (w : BitVec 64) : Int := (signU w s).toInt
def keyU (w : BitVec 64) : Int := (w.toNat : Int)
theorem keyS_low {s : Int} (hs : s = 32 ∨ s = 64) (w : BitVec 64) : keyS s (lowU w s) = keyS s w := by unfold keyS; rw [sign_low' _ _ hs]
theorem keyS_inj {s : Int} (hs : s = 32 ∨ s = 64) (a b : BitVec 64) (h : keyS s (lowU a s) = keyS s (lowU b s)) : lowU a s = lowU b s := by
  rw [keyS_low hs, keyS_low hs] at h
  have e : signU a s = signU b s := BitVec.eq_of_toInt_eq h
  rw [← low_sign a s hs, e, low_sign b s hs]
theorem keyU_inj (a b : BitVec 64) (h : keyU a = keyU b) : a = b := BitVec.eq_of_toNat_eq (by unfold keyU at h; omega)
theorem amo_sel {c s : Int} (hs : s = 32 ∨ s = 64) (hc : 85 ≤ c ∧ c ≤ 88) : ∃ (κ : BitVec 64 → Int) (mx : Bool), (∀ a b, κ (lowU a s) = κ (lowU b s) → lowU a s = lowU b s) ∧ ∀ m x, amoV c s m x = selB κ mx (lowU m s) (lowU x s) := by
  obtain rfl | rfl | rfl | rfl : c = 85 ∨ c = 86 ∨ c = 87 ∨ c = 88 := by omega
  · refine ⟨keyS s, false, keyS_inj hs, fun m x => ?_⟩
    unfold selB; rw [keyS_low hs, keyS_low hs]
    show (if (signU x s).toInt < (signU m s).toInt then lowU x s else lowU m s) = _
    unfold keyS
    by_cases h : (signU x s).toInt < (signU m s).toInt <;> simp [h]
  · refine ⟨keyS s, true, keyS_inj hs, fun m x => ?_⟩
    unfold selB; rw [keyS_low hs, keyS_low hs]
    show (if (signU x s).toInt < (signU m s).toInt then lowU m s else lowU x s) = _
    unfold keyS
    by_cases h : (signU x s).toInt < (signU m s).toInt <;> simp [h]
  · refine ⟨keyU, false, fun a b => keyU_inj _ _, fun m x => ?_⟩
    unfold selB keyU
    show (if lowU x s < lowU m s then lowU x s else lowU m s) = _
    simp only [BitVec.lt_def, Int.ofNat_lt]
    by_cases h : (lowU x s).toNat < (lowU m s).toNat <;> simp [h]
  · refine ⟨keyU, true, fun a b => keyU_inj _ _, fun m x => ?_⟩
    unfold selB keyU
    show (if lowU x s < lowU m s then lowU m s else lowU x s) = _
    simp only [BitVec.lt_def, Int.ofNat_lt]
    by_cases h : (lowU x s).toNat < (lowU m s).toNat <;> simp [h]
theorem sel_low {κ : BitVec 64 → Int} {mx : Bool} {s : Int} (m x : BitVec 64) : lowU (selB κ mx (lowU m s) (lowU x s)) s = selB κ mx (lowU m s) (lowU x s) := by unfold selB; split <;> rw [low_low]
theorem low_add (a b : BitVec 64) (s : Int) (hs : s = 32 ∨ s = 64) : lowU (lowU a s + lowU b s) s = lowU (a + b) s := by
  rcases hs with rfl | rfl
  · have m : ∀ w : BitVec 64, (lowU w 32).toNat = w.toNat % 4294967296 := fun w => by
      have e : (4294967296 : Nat) = 2 ^ 32 := rfl
      rw [e]
      apply Nat.eq_of_testBit_eq
      intro i
      rw [Nat.testBit_mod_two_pow]
      by_cases hi : i < 64
      · have := low_g w 32 i hi
        rw [show decide ((i : Int) < 32) = decide (i < 32) from decide_eq_decide.2 (by omega)] at this
        exact this
      · have e1 : (lowU w 32).toNat.testBit i = false := Nat.testBit_lt_two_pow (Nat.lt_of_lt_of_le (lowU w 32).isLt (Nat.pow_le_pow_right (by decide) (by omega)))
        rw [e1, decide_eq_false (by omega)]; rfl
    apply BitVec.eq_of_toNat_eq
    rw [m, m, BitVec.toNat_add, BitVec.toNat_add, m, m]
    omega
  · simp only [low_64]
theorem bits3 (f : Bool → Bool → Bool) : True := trivial
def s_amoLaws (args : List AV) : Option AV :=
  match args with
  | [.c (.i op), .c (.u m), .g [.u x, .u y]] => some (.c (.b true))
  | _ => none
theorem s_amoLaws_eq {op m x y} : s_amoLaws [.c (.i op), .c (.u m), .g [.u x, .u y]] = some (.c (.b true)) := rfl
set_option maxRecDepth 100000 in
set_option maxHeartbeats 2000000 in
theorem ok_amoLaws : PuOk Try.prog 4 s_amoLaws := by
  refine pu_ok (tab := [(8, .pu s_aisA), (7, .pu s_ris8), (14, .pu s_do8), (13, .pu s_live8)]) hmix (TabOk.cons (e := .pu s_aisA) ok_aisA (TabOk.cons (e := .pu s_ris8) ok_ris8 (TabOk.cons (e := .pu s_do8) ok_do8 (TabOk.cons (e := .pu s_live8) ok_live8 TabOk.nil)))) Try.func4 rfl Try.results4 Try.ntmps4 (by kernel_rfl) (by kernel_rfl) ?_
  intro args v h
  unfold s_amoLaws at h
  split at h
  · rename_i op m x y
    simp only [Option.some.injEq] at h; subst h
    refine ⟨by simp only [List.length_cons, List.length_nil]; decide, rfl, rfl, ?_⟩
    have e1 : (isI op = 1) = (isAB op = true) := isI_1
    cases h : isAB op
    · have e2 : ¬ isI op = 1 := by rw [e1, h]; simp
      (try simp (config := { maxSteps := 10000000 }) only [go_sem, List.reduceReplicate, BitVec.reduceOfInt, BitVec.reduceToNat, BitVec.reduceToInt, BitVec.reduceEq, BitVec.reduceLT, BitVec.reduceLE, BitVec.reduceAdd, BitVec.reduceSub, BitVec.reduceMul, BitVec.reduceUDiv, BitVec.reduceUMod, BitVec.reduceAnd, BitVec.reduceOr, BitVec.reduceXOr, BitVec.reduceNot, BitVec.reduceNeg, BitVec.reduceHShiftLeft, BitVec.reduceHShiftRight, Nat.reduceAdd, Nat.reduceMul, Nat.reduceSub, Nat.reduceBEq, Nat.reduceEqDiff, Nat.reduceLeDiff, Nat.reduceLT, Int.reduceLE, Int.reduceLT, Int.reduceAdd, Int.reduceSub, Int.reduceMul, Int.reduceNeg, Int.reduceToNat, Int.reduceEq, ↓reduceIte, reduceCtorEq, s_aisA_eq, s_ris8_eq, s_do8_eq, s_live8_eq, h, e2]; repeat (simp (disch := omega) only [w64_d, ipos, ineg, dpos, dneg]; try simp (config := { maxSteps := 10000000 }) only [go_sem, List.reduceReplicate, BitVec.reduceOfInt, BitVec.reduceToNat, BitVec.reduceToInt, BitVec.reduceEq, BitVec.reduceLT, BitVec.reduceLE, BitVec.reduceAdd, BitVec.reduceSub, BitVec.reduceMul, BitVec.reduceUDiv, BitVec.reduceUMod, BitVec.reduceAnd, BitVec.reduceOr, BitVec.reduceXOr, BitVec.reduceNot, BitVec.reduceNeg, BitVec.reduceHShiftLeft, BitVec.reduceHShiftRight, Nat.reduceAdd, Nat.reduceMul, Nat.reduceSub, Nat.reduceBEq, Nat.reduceEqDiff, Nat.reduceLeDiff, Nat.reduceLT, Int.reduceLE, Int.reduceLT, Int.reduceAdd, Int.reduceSub, Int.reduceMul, Int.reduceNeg, Int.reduceToNat, Int.reduceEq, ↓reduceIte, reduceCtorEq, s_aisA_eq, s_ris8_eq, s_do8_eq, s_live8_eq, h, e2]))
    · have hs := size_or op
      have ea : ∀ m x, amoU op m x = amoV (wideN op) (sizeA op) m x := fun m x => if_pos h
      have hin := h
      rw [isA_eq] at hin
      generalize hz : sizeA op = s at hs ea
      by_cases h1 : op = 69 ∨ op = 80
      · have hw : wideN op = 80 := by rcases h1 with rfl | rfl <;> decide
        have ev : ∀ m x, amoU op m x = lowU x s := fun m x => by rw [ea, hw]; rfl
        rcases h1 with rfl | rfl <;> (try simp (config := { maxSteps := 10000000 }) only [go_sem, List.reduceReplicate, BitVec.reduceOfInt, BitVec.reduceToNat, BitVec.reduceToInt, BitVec.reduceEq, BitVec.reduceLT, BitVec.reduceLE, BitVec.reduceAdd, BitVec.reduceSub, BitVec.reduceMul, BitVec.reduceUDiv, BitVec.reduceUMod, BitVec.reduceAnd, BitVec.reduceOr, BitVec.reduceXOr, BitVec.reduceNot, BitVec.reduceNeg, BitVec.reduceHShiftLeft, BitVec.reduceHShiftRight, Nat.reduceAdd, Nat.reduceMul, Nat.reduceSub, Nat.reduceBEq, Nat.reduceEqDiff, Nat.reduceLeDiff, Nat.reduceLT, Int.reduceLE, Int.reduceLT, Int.reduceAdd, Int.reduceSub, Int.reduceMul, Int.reduceNeg, Int.reduceToNat, Int.reduceEq, ↓reduceIte, reduceCtorEq, s_aisA_eq, s_ris8_eq, s_do8_eq, s_live8_eq, h, ev]; repeat (simp (disch := omega) only [w64_d, ipos, ineg, dpos, dneg]; try simp (config := { maxSteps := 10000000 }) only [go_sem, List.reduceReplicate, BitVec.reduceOfInt, BitVec.reduceToNat, BitVec.reduceToInt, BitVec.reduceEq, BitVec.reduceLT, BitVec.reduceLE, BitVec.reduceAdd, BitVec.reduceSub, BitVec.reduceMul, BitVec.reduceUDiv, BitVec.reduceUMod, BitVec.reduceAnd, BitVec.reduceOr, BitVec.reduceXOr, BitVec.reduceNot, BitVec.reduceNeg, BitVec.reduceHShiftLeft, BitVec.reduceHShiftRight, Nat.reduceAdd, Nat.reduceMul, Nat.reduceSub, Nat.reduceBEq, Nat.reduceEqDiff, Nat.reduceLeDiff, Nat.reduceLT, Int.reduceLE, Int.reduceLT, Int.reduceAdd, Int.reduceSub, Int.reduceMul, Int.reduceNeg, Int.reduceToNat, Int.reduceEq, ↓reduceIte, reduceCtorEq, s_aisA_eq, s_ris8_eq, s_do8_eq, s_live8_eq, h, ev]))
      · by_cases h2 : op = 70 ∨ op = 81 ∨ op = 71 ∨ op = 82
        · have ev : ∀ m x y, amoU op (amoU op m x) y = amoU op (amoU op m y) x := by
            intro m x y
            have hw : wideN op = 81 ∨ wideN op = 82 := by rcases h2 with rfl | rfl | rfl | rfl <;> decide
            simp only [ea]
            rcases hw with hw | hw <;> rw [hw]
            · show lowU (lowU (lowU (lowU m s + lowU x s) s) s + lowU y s) s = lowU (lowU (lowU (lowU m s + lowU y s) s) s + lowU x s) s
              simp only [low_add _ _ _ hs, low_low]
              rw [BitVec.add_assoc, BitVec.add_comm x y, ← BitVec.add_assoc]
            · show lowU (lowU m s ^^^ lowU x s) s ^^^ lowU y s = lowU (lowU m s ^^^ lowU y s) s ^^^ lowU x s
              rw [low_xor, low_xor, BitVec.xor_assoc, BitVec.xor_comm (lowU x s), ← BitVec.xor_assoc]
          have h2' := h2
          have e3 := ev m x y
          rcases h2 with rfl | rfl | rfl | rfl <;> (try simp (config := { maxSteps := 10000000 }) only [go_sem, List.reduceReplicate, BitVec.reduceOfInt, BitVec.reduceToNat, BitVec.reduceToInt, BitVec.reduceEq, BitVec.reduceLT, BitVec.reduceLE, BitVec.reduceAdd, BitVec.reduceSub, BitVec.reduceMul, BitVec.reduceUDiv, BitVec.reduceUMod, BitVec.reduceAnd, BitVec.reduceOr, BitVec.reduceXOr, BitVec.reduceNot, BitVec.reduceNeg, BitVec.reduceHShiftLeft, BitVec.reduceHShiftRight, Nat.reduceAdd, Nat.reduceMul, Nat.reduceSub, Nat.reduceBEq, Nat.reduceEqDiff, Nat.reduceLeDiff, Nat.reduceLT, Int.reduceLE, Int.reduceLT, Int.reduceAdd, Int.reduceSub, Int.reduceMul, Int.reduceNeg, Int.reduceToNat, Int.reduceEq, ↓reduceIte, reduceCtorEq, s_aisA_eq, s_ris8_eq, s_do8_eq, s_live8_eq, h, e3]; repeat (simp (disch := omega) only [w64_d, ipos, ineg, dpos, dneg]; try simp (config := { maxSteps := 10000000 }) only [go_sem, List.reduceReplicate, BitVec.reduceOfInt, BitVec.reduceToNat, BitVec.reduceToInt, BitVec.reduceEq, BitVec.reduceLT, BitVec.reduceLE, BitVec.reduceAdd, BitVec.reduceSub, BitVec.reduceMul, BitVec.reduceUDiv, BitVec.reduceUMod, BitVec.reduceAnd, BitVec.reduceOr, BitVec.reduceXOr, BitVec.reduceNot, BitVec.reduceNeg, BitVec.reduceHShiftLeft, BitVec.reduceHShiftRight, Nat.reduceAdd, Nat.reduceMul, Nat.reduceSub, Nat.reduceBEq, Nat.reduceEqDiff, Nat.reduceLeDiff, Nat.reduceLT, Int.reduceLE, Int.reduceLT, Int.reduceAdd, Int.reduceSub, Int.reduceMul, Int.reduceNeg, Int.reduceToNat, Int.reduceEq, ↓reduceIte, reduceCtorEq, s_aisA_eq, s_ris8_eq, s_do8_eq, s_live8_eq, h, e3]))
        · have hc : 83 ≤ wideN op ∧ wideN op ≤ 88 := by unfold wideN; split <;> omega
          have ev : (∀ m x, amoU op (amoU op m x) x = amoU op m x) ∧ ∀ m x y, amoU op (amoU op m x) y = amoU op (amoU op m y) x := by
            simp only [ea]
            generalize wideN op = c at hc
            by_cases h3 : c = 83
            · subst h3
              refine ⟨fun m x => ?_, fun m x y => ?_⟩
              · show lowU (lowU m s &&& lowU x s) s &&& lowU x s = lowU m s &&& lowU x s
                rw [low_and, BitVec.and_assoc, BitVec.and_self]
              · show lowU (lowU m s &&& lowU x s) s &&& lowU y s = lowU (lowU m s &&& lowU y s) s &&& lowU x s
                rw [low_and, low_and, BitVec.and_assoc, BitVec.and_comm (lowU x s), ← BitVec.and_assoc]
            · by_cases h4 : c = 84
              · subst h4
                refine ⟨fun m x => ?_, fun m x y => ?_⟩
                · show lowU (lowU m s ||| lowU x s) s ||| lowU x s = lowU m s ||| lowU x s
                  rw [low_or, BitVec.or_assoc, BitVec.or_self]
                · show lowU (lowU m s ||| lowU x s) s ||| lowU y s = lowU (lowU m s ||| lowU y s) s ||| lowU x s
                  rw [low_or, low_or, BitVec.or_assoc, BitVec.or_comm (lowU x s), ← BitVec.or_assoc]
              · obtain ⟨κ, mx, inj, hv⟩ := amo_sel (c := c) hs (by omega)
                refine ⟨fun m x => ?_, fun m x y => ?_⟩
                · rw [hv (amoV c s m x), hv m x, sel_low]
                  exact sel_twice κ mx _ _ (inj _ _)
                · rw [hv (amoV c s m x), hv m x, hv (amoV c s m y), hv m y, sel_low, sel_low]
                  exact sel_comm κ mx _ _ _ (inj _ _) (inj _ _) (inj _ _)
          obtain ⟨f1, f2⟩ := ev
          have e3 := f2 m x y
          have e4 := f1 m x
          have n1 : ¬ op = 69 := fun e => h1 (.inl e)
          have n2 : ¬ op = 80 := fun e => h1 (.inr e)
          have n3 : ¬ op = 70 := fun e => h2 (.inl e)
          have n4 : ¬ op = 81 := fun e => h2 (.inr (.inl e))
          have n5 : ¬ op = 71 := fun e => h2 (.inr (.inr (.inl e)))
          have n6 : ¬ op = 82 := fun e => h2 (.inr (.inr (.inr e)))
          (try simp (config := { maxSteps := 10000000 }) only [go_sem, List.reduceReplicate, BitVec.reduceOfInt, BitVec.reduceToNat, BitVec.reduceToInt, BitVec.reduceEq, BitVec.reduceLT, BitVec.reduceLE, BitVec.reduceAdd, BitVec.reduceSub, BitVec.reduceMul, BitVec.reduceUDiv, BitVec.reduceUMod, BitVec.reduceAnd, BitVec.reduceOr, BitVec.reduceXOr, BitVec.reduceNot, BitVec.reduceNeg, BitVec.reduceHShiftLeft, BitVec.reduceHShiftRight, Nat.reduceAdd, Nat.reduceMul, Nat.reduceSub, Nat.reduceBEq, Nat.reduceEqDiff, Nat.reduceLeDiff, Nat.reduceLT, Int.reduceLE, Int.reduceLT, Int.reduceAdd, Int.reduceSub, Int.reduceMul, Int.reduceNeg, Int.reduceToNat, Int.reduceEq, ↓reduceIte, reduceCtorEq, s_aisA_eq, s_ris8_eq, s_do8_eq, s_live8_eq, h, n1, n2, n3, n4, n5, n6, e3, e4]; repeat (simp (disch := omega) only [w64_d, ipos, ineg, dpos, dneg]; try simp (config := { maxSteps := 10000000 }) only [go_sem, List.reduceReplicate, BitVec.reduceOfInt, BitVec.reduceToNat, BitVec.reduceToInt, BitVec.reduceEq, BitVec.reduceLT, BitVec.reduceLE, BitVec.reduceAdd, BitVec.reduceSub, BitVec.reduceMul, BitVec.reduceUDiv, BitVec.reduceUMod, BitVec.reduceAnd, BitVec.reduceOr, BitVec.reduceXOr, BitVec.reduceNot, BitVec.reduceNeg, BitVec.reduceHShiftLeft, BitVec.reduceHShiftRight, Nat.reduceAdd, Nat.reduceMul, Nat.reduceSub, Nat.reduceBEq, Nat.reduceEqDiff, Nat.reduceLeDiff, Nat.reduceLT, Int.reduceLE, Int.reduceLT, Int.reduceAdd, Int.reduceSub, Int.reduceMul, Int.reduceNeg, Int.reduceToNat, Int.reduceEq, ↓reduceIte, reduceCtorEq, s_aisA_eq, s_ris8_eq, s_do8_eq, s_live8_eq, h, n1, n2, n3, n4, n5, n6, e3, e4]))
  · simp at h

end
end Go.Proofs.Ytabmgcfeblclgaa
