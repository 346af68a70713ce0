/- Layer 7: what instructions reckon: contracts. -/
import Derived.Test.YtjlbgjhnhhihoaaK1
import Derived.Test.YtjlbgjhnhhihoaaWideX
import Derived.Test.YtjlbgjhnhhihoaaWideZ
import Derived.Test.YtjlbgjhnhhihoaaR3
namespace Go.Proofs.Ytjlbgjhnhhihoaa
open Go.Am
set_option linter.unusedSimpArgs false
set_option linter.unusedVariables false
noncomputable section

/-- what an op, told by its number, reckons -/
def aluV (c : Int) (a b : BitVec 64) : BitVec 64 :=
  if c = 31 then a + b else
  if c = 32 then a - b else
  if c = 33 then shiftU a (b.toNat % 64 : Nat) else
  if c = 34 then b2 (decide (a.toInt < b.toInt)) else
  if c = 35 then b2 (decide (a < b)) else
  if c = 36 then a ^^^ b else
  if c = 37 then shiftU a (-(b.toNat % 64 : Nat)) else
  if c = 38 then sraU a (b.toNat % 64) else
  if c = 39 then a ||| b else
  if c = 40 then a &&& b else
  if c = 45 then signU (a + b) 32 else
  if c = 46 then signU (a - b) 32 else
  if c = 47 then signU (shiftU a (b.toNat % 32 : Nat)) 32 else
  if c = 48 then signU (shiftU (lowU a 32) (-(b.toNat % 32 : Nat))) 32 else
  if c = 49 then sraU (signU a 32) (b.toNat % 32) else
  if c = 54 then a * b else
  if c = 55 then highU a b else
  if c = 56 then highMixedU a b else
  if c = 57 then timesHi a b else
  if c = 58 then divS a b else
  if c = 59 then divU a b else
  if c = 60 then a - b * divS a b else
  if c = 61 then a - b * divU a b else
  if c = 62 then signU (signU a 32 * signU b 32) 32 else
  if c = 63 then signU (divS (signU a 32) (signU b 32)) 32 else
  if c = 64 then signU (divU (lowU a 32) (lowU b 32)) 32 else
  if c = 65 then signU (signU a 32 - signU b 32 * divS (signU a 32) (signU b 32)) 32 else
  if c = 66 then signU (lowU a 32 - lowU b 32 * divU (lowU a 32) (lowU b 32)) 32 else 0#64
/-- an op with a number, as the one without -/
def canI (c : Int) : Int :=
  if c = 22 then 31 else
  if c = 23 then 34 else
  if c = 24 then 35 else
  if c = 25 then 36 else
  if c = 26 then 39 else
  if c = 27 then 40 else
  if c = 28 then 33 else
  if c = 29 then 37 else
  if c = 30 then 38 else
  if c = 41 then 45 else
  if c = 42 then 47 else
  if c = 43 then 48 else
  if c = 44 then 49 else c
theorem aV_add {a b : BitVec 64} : aluV 31 a b = a + b := rfl
theorem aV_sub {a b : BitVec 64} : aluV 32 a b = a - b := rfl
theorem aV_sll {a b : BitVec 64} : aluV 33 a b = shiftU a (b.toNat % 64 : Nat) := rfl
theorem aV_slt {a b : BitVec 64} : aluV 34 a b = b2 (decide (a.toInt < b.toInt)) := rfl
theorem aV_sltu {a b : BitVec 64} : aluV 35 a b = b2 (decide (a < b)) := rfl
theorem aV_xor {a b : BitVec 64} : aluV 36 a b = a ^^^ b := rfl
theorem aV_srl {a b : BitVec 64} : aluV 37 a b = shiftU a (-(b.toNat % 64 : Nat)) := rfl
theorem aV_sra {a b : BitVec 64} : aluV 38 a b = sraU a (b.toNat % 64) := rfl
theorem aV_or {a b : BitVec 64} : aluV 39 a b = a ||| b := rfl
theorem aV_and {a b : BitVec 64} : aluV 40 a b = a &&& b := rfl
theorem aV_addw {a b : BitVec 64} : aluV 45 a b = signU (a + b) 32 := rfl
theorem aV_subw {a b : BitVec 64} : aluV 46 a b = signU (a - b) 32 := rfl
theorem aV_sllw {a b : BitVec 64} : aluV 47 a b = signU (shiftU a (b.toNat % 32 : Nat)) 32 := rfl
theorem aV_srlw {a b : BitVec 64} : aluV 48 a b = signU (shiftU (lowU a 32) (-(b.toNat % 32 : Nat))) 32 := rfl
theorem aV_sraw {a b : BitVec 64} : aluV 49 a b = sraU (signU a 32) (b.toNat % 32) := rfl
theorem aV_mul {a b : BitVec 64} : aluV 54 a b = a * b := rfl
theorem aV_mulh {a b : BitVec 64} : aluV 55 a b = highU a b := rfl
theorem aV_mulhsu {a b : BitVec 64} : aluV 56 a b = highMixedU a b := rfl
theorem aV_mulhu {a b : BitVec 64} : aluV 57 a b = timesHi a b := rfl
theorem aV_div {a b : BitVec 64} : aluV 58 a b = divS a b := rfl
theorem aV_divu {a b : BitVec 64} : aluV 59 a b = divU a b := rfl
theorem aV_rem {a b : BitVec 64} : aluV 60 a b = a - b * divS a b := rfl
theorem aV_remu {a b : BitVec 64} : aluV 61 a b = a - b * divU a b := rfl
theorem aV_mulw {a b : BitVec 64} : aluV 62 a b = signU (signU a 32 * signU b 32) 32 := rfl
theorem aV_divw {a b : BitVec 64} : aluV 63 a b = signU (divS (signU a 32) (signU b 32)) 32 := rfl
theorem aV_divuw {a b : BitVec 64} : aluV 64 a b = signU (divU (lowU a 32) (lowU b 32)) 32 := rfl
theorem aV_remw {a b : BitVec 64} : aluV 65 a b = signU (signU a 32 - signU b 32 * divS (signU a 32) (signU b 32)) 32 := rfl
theorem aV_remuw {a b : BitVec 64} : aluV 66 a b = signU (lowU a 32 - lowU b 32 * divU (lowU a 32) (lowU b 32)) 32 := rfl
def s_truth (args : List AV) : Option AV :=
  match args with
  | [.c (.b q)] => some (.c (.u (b2 q)))
  | _ => none
theorem s_truth_eq {q} : s_truth [.c (.b q)] = some (.c (.u (b2 q))) := rfl
set_option maxRecDepth 100000 in
set_option maxHeartbeats 2000000 in
theorem ok_truth : PuOk Try.prog 73 s_truth := by
  refine pu_ok (tab := []) hmix TabOk.nil Try.func73 rfl Try.results73 Try.ntmps73 (by kernel_rfl) (by kernel_rfl) ?_
  intro args v h
  unfold s_truth at h
  split at h
  · rename_i q
    simp only [Option.some.injEq] at h; subst h
    refine ⟨by simp only [List.length_cons, List.length_nil]; decide, rfl, rfl, ?_⟩
    cases q
    all_goals (try simp (config := { maxSteps := 10000000 }) only [go_sem, List.reduceReplicate, BitVec.reduceOfInt, BitVec.reduceToNat, BitVec.reduceToInt, BitVec.reduceEq, BitVec.reduceLT, BitVec.reduceLE, BitVec.reduceAdd, BitVec.reduceSub, BitVec.reduceMul, BitVec.reduceUDiv, BitVec.reduceUMod, BitVec.reduceAnd, BitVec.reduceOr, BitVec.reduceXOr, BitVec.reduceNot, BitVec.reduceNeg, BitVec.reduceHShiftLeft, BitVec.reduceHShiftRight, Nat.reduceAdd, Nat.reduceMul, Nat.reduceSub, Nat.reduceBEq, Nat.reduceEqDiff, Nat.reduceLeDiff, Nat.reduceLT, Int.reduceLE, Int.reduceLT, Int.reduceAdd, Int.reduceSub, Int.reduceMul, Int.reduceNeg, Int.reduceToNat, Int.reduceEq, ↓reduceIte, reduceCtorEq, b2]; repeat (simp (disch := omega) only [w64_d, ipos, ineg, dpos, dneg]; try simp (config := { maxSteps := 10000000 }) only [go_sem, List.reduceReplicate, BitVec.reduceOfInt, BitVec.reduceToNat, BitVec.reduceToInt, BitVec.reduceEq, BitVec.reduceLT, BitVec.reduceLE, BitVec.reduceAdd, BitVec.reduceSub, BitVec.reduceMul, BitVec.reduceUDiv, BitVec.reduceUMod, BitVec.reduceAnd, BitVec.reduceOr, BitVec.reduceXOr, BitVec.reduceNot, BitVec.reduceNeg, BitVec.reduceHShiftLeft, BitVec.reduceHShiftRight, Nat.reduceAdd, Nat.reduceMul, Nat.reduceSub, Nat.reduceBEq, Nat.reduceEqDiff, Nat.reduceLeDiff, Nat.reduceLT, Int.reduceLE, Int.reduceLT, Int.reduceAdd, Int.reduceSub, Int.reduceMul, Int.reduceNeg, Int.reduceToNat, Int.reduceEq, ↓reduceIte, reduceCtorEq, b2]))
  · simp at h
def s_plain (args : List AV) : Option AV :=
  match args with
  | [.c (.i op), .c (.u a), .c (.u b)] => if 22 ≤ op ∧ op ≤ 40 then some (.c (.u (aluV (canI op) a b))) else none
  | _ => none
theorem s_plain_eq {op a b} : s_plain [.c (.i op), .c (.u a), .c (.u b)] = if 22 ≤ op ∧ op ≤ 40 then some (.c (.u (aluV (canI op) a b))) else none := rfl
set_option maxRecDepth 100000 in
set_option maxHeartbeats 2000000 in
theorem ok_plain : PuOk Try.prog 48 s_plain := by
  refine pu_ok (tab := [(70, .pu s_sll), (71, .pu s_srl), (72, .pu s_sra), (74, .pu s_less), (73, .pu s_truth)]) hmix (TabOk.cons (e := .pu s_sll) ok_sll (TabOk.cons (e := .pu s_srl) ok_srl (TabOk.cons (e := .pu s_sra) ok_sra (TabOk.cons (e := .pu s_less) ok_less (TabOk.cons (e := .pu s_truth) ok_truth TabOk.nil))))) Try.func48 rfl Try.results48 Try.ntmps48 (by kernel_rfl) (by kernel_rfl) ?_
  intro args v h
  unfold s_plain at h
  split at h
  · rename_i op a b
    split at h
    · rename_i hc
      simp only [Option.some.injEq] at h; subst h
      refine ⟨by simp only [List.length_cons, List.length_nil]; decide, rfl, rfl, ?_⟩
      obtain ⟨n, rfl⟩ := Int.eq_ofNat_of_zero_le (by omega : 0 ≤ op)
      obtain ⟨h1, h2⟩ := hc
      have h1 : 22 ≤ n := by omega
      have h2 : n ≤ 40 := by omega
      obtain rfl | rfl | rfl | rfl | rfl | rfl | rfl | rfl | rfl | rfl | rfl | rfl | rfl | rfl | rfl | rfl | rfl | rfl | rfl : n = 22 ∨ n = 23 ∨ n = 24 ∨ n = 25 ∨ n = 26 ∨ n = 27 ∨ n = 28 ∨ n = 29 ∨ n = 30 ∨ n = 31 ∨ n = 32 ∨ n = 33 ∨ n = 34 ∨ n = 35 ∨ n = 36 ∨ n = 37 ∨ n = 38 ∨ n = 39 ∨ n = 40 := by omega
      all_goals simp (config := { maxSteps := 10000000 }) only [go_sem, List.reduceReplicate, BitVec.reduceOfInt, BitVec.reduceToNat, BitVec.reduceToInt, BitVec.reduceEq, BitVec.reduceLT, BitVec.reduceLE, BitVec.reduceAdd, BitVec.reduceSub, BitVec.reduceMul, BitVec.reduceUDiv, BitVec.reduceUMod, BitVec.reduceAnd, BitVec.reduceOr, BitVec.reduceXOr, BitVec.reduceNot, BitVec.reduceNeg, BitVec.reduceHShiftLeft, BitVec.reduceHShiftRight, Nat.reduceAdd, Nat.reduceMul, Nat.reduceSub, Nat.reduceBEq, Nat.reduceEqDiff, Nat.reduceLeDiff, Nat.reduceLT, Int.reduceLE, Int.reduceLT, Int.reduceAdd, Int.reduceSub, Int.reduceMul, Int.reduceNeg, Int.reduceToNat, Int.reduceEq, ↓reduceIte, reduceCtorEq, s_sll_eq, s_srl_eq, s_sra_eq, s_less_eq, s_truth_eq, Int.cast_ofNat_Int]
      all_goals rfl
    · simp at h
  · simp at h
def s_narrow (args : List AV) : Option AV :=
  match args with
  | [.c (.i op), .c (.u a), .c (.u b)] => if 41 ≤ op ∧ op ≤ 49 then some (.c (.u (aluV (canI op) a b))) else none
  | _ => none
theorem s_narrow_eq {op a b} : s_narrow [.c (.i op), .c (.u a), .c (.u b)] = if 41 ≤ op ∧ op ≤ 49 then some (.c (.u (aluV (canI op) a b))) else none := rfl
set_option maxRecDepth 100000 in
set_option maxHeartbeats 2000000 in
theorem ok_narrow : PuOk Try.prog 47 s_narrow := by
  refine pu_ok (tab := [(66, .pu s_word32), (67, .pu s_sllw), (68, .pu s_srlw), (69, .pu s_sraw)]) hmix (TabOk.cons (e := .pu s_word32) ok_word32 (TabOk.cons (e := .pu s_sllw) ok_sllw (TabOk.cons (e := .pu s_srlw) ok_srlw (TabOk.cons (e := .pu s_sraw) ok_sraw TabOk.nil)))) Try.func47 rfl Try.results47 Try.ntmps47 (by kernel_rfl) (by kernel_rfl) ?_
  intro args v h
  unfold s_narrow at h
  split at h
  · rename_i op a b
    split at h
    · rename_i hc
      simp only [Option.some.injEq] at h; subst h
      refine ⟨by simp only [List.length_cons, List.length_nil]; decide, rfl, rfl, ?_⟩
      obtain ⟨n, rfl⟩ := Int.eq_ofNat_of_zero_le (by omega : 0 ≤ op)
      obtain ⟨h1, h2⟩ := hc
      have h1 : 41 ≤ n := by omega
      have h2 : n ≤ 49 := by omega
      obtain rfl | rfl | rfl | rfl | rfl | rfl | rfl | rfl | rfl : n = 41 ∨ n = 42 ∨ n = 43 ∨ n = 44 ∨ n = 45 ∨ n = 46 ∨ n = 47 ∨ n = 48 ∨ n = 49 := by omega
      all_goals simp (config := { maxSteps := 10000000 }) only [go_sem, List.reduceReplicate, BitVec.reduceOfInt, BitVec.reduceToNat, BitVec.reduceToInt, BitVec.reduceEq, BitVec.reduceLT, BitVec.reduceLE, BitVec.reduceAdd, BitVec.reduceSub, BitVec.reduceMul, BitVec.reduceUDiv, BitVec.reduceUMod, BitVec.reduceAnd, BitVec.reduceOr, BitVec.reduceXOr, BitVec.reduceNot, BitVec.reduceNeg, BitVec.reduceHShiftLeft, BitVec.reduceHShiftRight, Nat.reduceAdd, Nat.reduceMul, Nat.reduceSub, Nat.reduceBEq, Nat.reduceEqDiff, Nat.reduceLeDiff, Nat.reduceLT, Int.reduceLE, Int.reduceLT, Int.reduceAdd, Int.reduceSub, Int.reduceMul, Int.reduceNeg, Int.reduceToNat, Int.reduceEq, ↓reduceIte, reduceCtorEq, s_word32_eq, s_sllw_eq, s_srlw_eq, s_sraw_eq, Int.cast_ofNat_Int]
      all_goals rfl
    · simp at h
  · simp at h
def prodF (op : Int) : Nat :=
  if op = 54 then 57 else
  if op = 55 then 58 else
  if op = 56 then 59 else
  if op = 57 then 60 else
  if op = 58 then 61 else
  if op = 59 then 62 else
  if op = 60 then 63 else 64
def s_product (args : List AV) : Option AV :=
  match args with
  | [.c (.i op)] => if 54 ≤ op ∧ op ≤ 61 then some (.c (.f (prodF op) [])) else none
  | _ => none
theorem s_product_eq {op} : s_product [.c (.i op)] = if 54 ≤ op ∧ op ≤ 61 then some (.c (.f (prodF op) [])) else none := rfl
set_option maxRecDepth 100000 in
set_option maxHeartbeats 2000000 in
theorem ok_product : PuOk Try.prog 45 s_product := by
  refine pu_ok (tab := []) hmix TabOk.nil Try.func45 rfl Try.results45 Try.ntmps45 (by kernel_rfl) (by kernel_rfl) ?_
  intro args v h
  unfold s_product at h
  split at h
  · rename_i op
    split at h
    · rename_i hc
      simp only [Option.some.injEq] at h; subst h
      refine ⟨by simp only [List.length_cons, List.length_nil]; decide, rfl, rfl, ?_⟩
      obtain ⟨n, rfl⟩ := Int.eq_ofNat_of_zero_le (by omega : 0 ≤ op)
      obtain ⟨h1, h2⟩ := hc
      have h1 : 54 ≤ n := by omega
      have h2 : n ≤ 61 := by omega
      obtain rfl | rfl | rfl | rfl | rfl | rfl | rfl | rfl : n = 54 ∨ n = 55 ∨ n = 56 ∨ n = 57 ∨ n = 58 ∨ n = 59 ∨ n = 60 ∨ n = 61 := by omega
      all_goals simp (config := { maxSteps := 10000000 }) only [go_sem, List.reduceReplicate, BitVec.reduceOfInt, BitVec.reduceToNat, BitVec.reduceToInt, BitVec.reduceEq, BitVec.reduceLT, BitVec.reduceLE, BitVec.reduceAdd, BitVec.reduceSub, BitVec.reduceMul, BitVec.reduceUDiv, BitVec.reduceUMod, BitVec.reduceAnd, BitVec.reduceOr, BitVec.reduceXOr, BitVec.reduceNot, BitVec.reduceNeg, BitVec.reduceHShiftLeft, BitVec.reduceHShiftRight, Nat.reduceAdd, Nat.reduceMul, Nat.reduceSub, Nat.reduceBEq, Nat.reduceEqDiff, Nat.reduceLeDiff, Nat.reduceLT, Int.reduceLE, Int.reduceLT, Int.reduceAdd, Int.reduceSub, Int.reduceMul, Int.reduceNeg, Int.reduceToNat, Int.reduceEq, ↓reduceIte, reduceCtorEq, Int.cast_ofNat_Int]
      all_goals rfl
    · simp at h
  · simp at h
theorem s_short_eqs : True := trivial
set_option maxRecDepth 100000 in
set_option maxHeartbeats 2000000 in
def s_ashort (args : List AV) : Option AV :=
  match args with
  | [.c (.i op), .c (.u a), .c (.u b)] => if 62 ≤ op ∧ op ≤ 66 then some (.c (.u (aluV op a b))) else none
  | _ => none
theorem s_ashort_eq {op a b} : s_ashort [.c (.i op), .c (.u a), .c (.u b)] = if 62 ≤ op ∧ op ≤ 66 then some (.c (.u (aluV op a b))) else none := rfl
set_option maxRecDepth 100000 in
set_option maxHeartbeats 2000000 in
theorem ok_ashort : PuOk Try.prog 46 s_ashort := by
  refine pu_ok (tab := [(65, .pu s_short)]) hmix (TabOk.cons (e := .pu s_short) ok_short TabOk.nil) Try.func46 rfl Try.results46 Try.ntmps46 (by kernel_rfl) (by kernel_rfl) ?_
  intro args v h
  unfold s_ashort at h
  split at h
  · rename_i op a b
    split at h
    · rename_i hc
      simp only [Option.some.injEq] at h; subst h
      refine ⟨by simp only [List.length_cons, List.length_nil]; decide, rfl, rfl, ?_⟩
      obtain ⟨n, rfl⟩ := Int.eq_ofNat_of_zero_le (by omega : 0 ≤ op)
      obtain ⟨h1, h2⟩ := hc
      have h1 : 62 ≤ n := by omega
      have h2 : n ≤ 66 := by omega
      obtain rfl | rfl | rfl | rfl | rfl : n = 62 ∨ n = 63 ∨ n = 64 ∨ n = 65 ∨ n = 66 := by omega
      all_goals simp (config := { maxSteps := 10000000 }) only [go_sem, List.reduceReplicate, BitVec.reduceOfInt, BitVec.reduceToNat, BitVec.reduceToInt, BitVec.reduceEq, BitVec.reduceLT, BitVec.reduceLE, BitVec.reduceAdd, BitVec.reduceSub, BitVec.reduceMul, BitVec.reduceUDiv, BitVec.reduceUMod, BitVec.reduceAnd, BitVec.reduceOr, BitVec.reduceXOr, BitVec.reduceNot, BitVec.reduceNeg, BitVec.reduceHShiftLeft, BitVec.reduceHShiftRight, Nat.reduceAdd, Nat.reduceMul, Nat.reduceSub, Nat.reduceBEq, Nat.reduceEqDiff, Nat.reduceLeDiff, Nat.reduceLT, Int.reduceLE, Int.reduceLT, Int.reduceAdd, Int.reduceSub, Int.reduceMul, Int.reduceNeg, Int.reduceToNat, Int.reduceEq, ↓reduceIte, reduceCtorEq, s_short_mul, s_short_div, s_short_rem, s_short_divPlain, s_short_remPlain, Int.cast_ofNat_Int]
      all_goals rfl
    · simp at h
  · simp at h
theorem class_1 {op : Int} : (classI op = 1) = ((22 ≤ op ∧ op ≤ 49) ∨ (54 ≤ op ∧ op ≤ 66)) := by
  apply propext
  simp only [classI, wiB, Bool.and_eq_true, decide_eq_true_eq]
  repeat' split
  all_goals omega
def adoU (op : Int) (a b : BitVec 64) : BitVec 64 := if classI op = 1 then aluV (canI op) a b else 0#64
theorem canI_id {op : Int} (h : 54 ≤ op) : canI op = op := by
  unfold canI
  repeat rw [if_neg (by omega)]
def s_ado (args : List AV) : Option AV :=
  match args with
  | [.c (.i op), .c (.u a), .c (.u b)] => some (.t [.c (.u (adoU op a b)), .c (.b (decide (classI op = 1)))])
  | _ => none
theorem s_ado_eq {op a b} : s_ado [.c (.i op), .c (.u a), .c (.u b)] = some (.t [.c (.u (adoU op a b)), .c (.b (decide (classI op = 1)))]) := rfl
set_option maxRecDepth 100000 in
set_option maxHeartbeats 2000000 in
theorem ok_ado : PuOk Try.prog 26 s_ado := by
  refine pu_ok (tab := [(12, .pu s_class), (45, .pu s_product), (48, .pu s_plain), (47, .pu s_narrow), (46, .pu s_ashort), (57, .pu s_mul), (58, .pu s_high), (59, .pu s_highMixed), (60, .pu s_highPlain), (61, .pu s_div), (62, .pu s_divPlain), (63, .pu s_rem), (64, .pu s_remPlain)]) hmix (TabOk.cons (e := .pu s_class) ok_class (TabOk.cons (e := .pu s_product) ok_product (TabOk.cons (e := .pu s_plain) ok_plain (TabOk.cons (e := .pu s_narrow) ok_narrow (TabOk.cons (e := .pu s_ashort) ok_ashort (TabOk.cons (e := .pu s_mul) ok_mul (TabOk.cons (e := .pu s_high) ok_high (TabOk.cons (e := .pu s_highMixed) ok_highMixed (TabOk.cons (e := .pu s_highPlain) ok_highPlain (TabOk.cons (e := .pu s_div) ok_div (TabOk.cons (e := .pu s_divPlain) ok_divPlain (TabOk.cons (e := .pu s_rem) ok_rem (TabOk.cons (e := .pu s_remPlain) ok_remPlain TabOk.nil))))))))))))) Try.func26 rfl Try.results26 Try.ntmps26 (by kernel_rfl) (by kernel_rfl) ?_
  intro args v h
  unfold s_ado at h
  split at h
  · rename_i op a b
    simp only [Option.some.injEq] at h; subst h
    refine ⟨by simp only [List.length_cons, List.length_nil]; decide, rfl, rfl, ?_⟩
    by_cases h : classI op = 1
    · have h' := h
      rw [class_1] at h
      by_cases h5 : 54 ≤ op
      · by_cases h6 : op ≤ 61
        · have e := canI_id h5
          obtain ⟨n, rfl⟩ := Int.eq_ofNat_of_zero_le (by omega : 0 ≤ op)
          have h1 : 54 ≤ n := by omega
          have h2 : n ≤ 61 := by omega
          (try simp (config := { maxSteps := 10000000 }) only [go_sem, List.reduceReplicate, BitVec.reduceOfInt, BitVec.reduceToNat, BitVec.reduceToInt, BitVec.reduceEq, BitVec.reduceLT, BitVec.reduceLE, BitVec.reduceAdd, BitVec.reduceSub, BitVec.reduceMul, BitVec.reduceUDiv, BitVec.reduceUMod, BitVec.reduceAnd, BitVec.reduceOr, BitVec.reduceXOr, BitVec.reduceNot, BitVec.reduceNeg, BitVec.reduceHShiftLeft, BitVec.reduceHShiftRight, Nat.reduceAdd, Nat.reduceMul, Nat.reduceSub, Nat.reduceBEq, Nat.reduceEqDiff, Nat.reduceLeDiff, Nat.reduceLT, Int.reduceLE, Int.reduceLT, Int.reduceAdd, Int.reduceSub, Int.reduceMul, Int.reduceNeg, Int.reduceToNat, Int.reduceEq, ↓reduceIte, reduceCtorEq, s_class_eq, s_product_eq, s_plain_eq, s_narrow_eq, s_ashort_eq, s_mul_eq, s_high_eq, s_highMixed_eq, s_highPlain_eq, s_div_eq, s_divPlain_eq, s_rem_eq, s_remPlain_eq, h', adoU]; repeat (simp (disch := omega) only [w64_d, ipos, ineg, dpos, dneg]; try simp (config := { maxSteps := 10000000 }) only [go_sem, List.reduceReplicate, BitVec.reduceOfInt, BitVec.reduceToNat, BitVec.reduceToInt, BitVec.reduceEq, BitVec.reduceLT, BitVec.reduceLE, BitVec.reduceAdd, BitVec.reduceSub, BitVec.reduceMul, BitVec.reduceUDiv, BitVec.reduceUMod, BitVec.reduceAnd, BitVec.reduceOr, BitVec.reduceXOr, BitVec.reduceNot, BitVec.reduceNeg, BitVec.reduceHShiftLeft, BitVec.reduceHShiftRight, Nat.reduceAdd, Nat.reduceMul, Nat.reduceSub, Nat.reduceBEq, Nat.reduceEqDiff, Nat.reduceLeDiff, Nat.reduceLT, Int.reduceLE, Int.reduceLT, Int.reduceAdd, Int.reduceSub, Int.reduceMul, Int.reduceNeg, Int.reduceToNat, Int.reduceEq, ↓reduceIte, reduceCtorEq, s_class_eq, s_product_eq, s_plain_eq, s_narrow_eq, s_ashort_eq, s_mul_eq, s_high_eq, s_highMixed_eq, s_highPlain_eq, s_div_eq, s_divPlain_eq, s_rem_eq, s_remPlain_eq, h', adoU]))
          generalize canI (n : Int) = c at e
          subst e
          obtain rfl | rfl | rfl | rfl | rfl | rfl | rfl | rfl : n = 54 ∨ n = 55 ∨ n = 56 ∨ n = 57 ∨ n = 58 ∨ n = 59 ∨ n = 60 ∨ n = 61 := by omega
          all_goals simp only [prodF, Int.cast_ofNat_Int]
          all_goals simp (config := { maxSteps := 10000000 }) only [go_sem, List.reduceReplicate, BitVec.reduceOfInt, BitVec.reduceToNat, BitVec.reduceToInt, BitVec.reduceEq, BitVec.reduceLT, BitVec.reduceLE, BitVec.reduceAdd, BitVec.reduceSub, BitVec.reduceMul, BitVec.reduceUDiv, BitVec.reduceUMod, BitVec.reduceAnd, BitVec.reduceOr, BitVec.reduceXOr, BitVec.reduceNot, BitVec.reduceNeg, BitVec.reduceHShiftLeft, BitVec.reduceHShiftRight, Nat.reduceAdd, Nat.reduceMul, Nat.reduceSub, Nat.reduceBEq, Nat.reduceEqDiff, Nat.reduceLeDiff, Nat.reduceLT, Int.reduceLE, Int.reduceLT, Int.reduceAdd, Int.reduceSub, Int.reduceMul, Int.reduceNeg, Int.reduceToNat, Int.reduceEq, ↓reduceIte, reduceCtorEq, s_class_eq, s_product_eq, s_plain_eq, s_narrow_eq, s_ashort_eq, s_mul_eq, s_high_eq, s_highMixed_eq, s_highPlain_eq, s_div_eq, s_divPlain_eq, s_rem_eq, s_remPlain_eq]
          all_goals rfl
        · have e := canI_id h5
          have e2 : op ≤ 66 := by omega
          (try simp (config := { maxSteps := 10000000 }) only [go_sem, List.reduceReplicate, BitVec.reduceOfInt, BitVec.reduceToNat, BitVec.reduceToInt, BitVec.reduceEq, BitVec.reduceLT, BitVec.reduceLE, BitVec.reduceAdd, BitVec.reduceSub, BitVec.reduceMul, BitVec.reduceUDiv, BitVec.reduceUMod, BitVec.reduceAnd, BitVec.reduceOr, BitVec.reduceXOr, BitVec.reduceNot, BitVec.reduceNeg, BitVec.reduceHShiftLeft, BitVec.reduceHShiftRight, Nat.reduceAdd, Nat.reduceMul, Nat.reduceSub, Nat.reduceBEq, Nat.reduceEqDiff, Nat.reduceLeDiff, Nat.reduceLT, Int.reduceLE, Int.reduceLT, Int.reduceAdd, Int.reduceSub, Int.reduceMul, Int.reduceNeg, Int.reduceToNat, Int.reduceEq, ↓reduceIte, reduceCtorEq, s_class_eq, s_product_eq, s_plain_eq, s_narrow_eq, s_ashort_eq, s_mul_eq, s_high_eq, s_highMixed_eq, s_highPlain_eq, s_div_eq, s_divPlain_eq, s_rem_eq, s_remPlain_eq, h', adoU, e]; repeat (simp (disch := omega) only [w64_d, ipos, ineg, dpos, dneg]; try simp (config := { maxSteps := 10000000 }) only [go_sem, List.reduceReplicate, BitVec.reduceOfInt, BitVec.reduceToNat, BitVec.reduceToInt, BitVec.reduceEq, BitVec.reduceLT, BitVec.reduceLE, BitVec.reduceAdd, BitVec.reduceSub, BitVec.reduceMul, BitVec.reduceUDiv, BitVec.reduceUMod, BitVec.reduceAnd, BitVec.reduceOr, BitVec.reduceXOr, BitVec.reduceNot, BitVec.reduceNeg, BitVec.reduceHShiftLeft, BitVec.reduceHShiftRight, Nat.reduceAdd, Nat.reduceMul, Nat.reduceSub, Nat.reduceBEq, Nat.reduceEqDiff, Nat.reduceLeDiff, Nat.reduceLT, Int.reduceLE, Int.reduceLT, Int.reduceAdd, Int.reduceSub, Int.reduceMul, Int.reduceNeg, Int.reduceToNat, Int.reduceEq, ↓reduceIte, reduceCtorEq, s_class_eq, s_product_eq, s_plain_eq, s_narrow_eq, s_ashort_eq, s_mul_eq, s_high_eq, s_highMixed_eq, s_highPlain_eq, s_div_eq, s_divPlain_eq, s_rem_eq, s_remPlain_eq, h', adoU, e]))
      · by_cases h4 : 41 ≤ op
        · have e2 : op ≤ 49 := by omega
          (try simp (config := { maxSteps := 10000000 }) only [go_sem, List.reduceReplicate, BitVec.reduceOfInt, BitVec.reduceToNat, BitVec.reduceToInt, BitVec.reduceEq, BitVec.reduceLT, BitVec.reduceLE, BitVec.reduceAdd, BitVec.reduceSub, BitVec.reduceMul, BitVec.reduceUDiv, BitVec.reduceUMod, BitVec.reduceAnd, BitVec.reduceOr, BitVec.reduceXOr, BitVec.reduceNot, BitVec.reduceNeg, BitVec.reduceHShiftLeft, BitVec.reduceHShiftRight, Nat.reduceAdd, Nat.reduceMul, Nat.reduceSub, Nat.reduceBEq, Nat.reduceEqDiff, Nat.reduceLeDiff, Nat.reduceLT, Int.reduceLE, Int.reduceLT, Int.reduceAdd, Int.reduceSub, Int.reduceMul, Int.reduceNeg, Int.reduceToNat, Int.reduceEq, ↓reduceIte, reduceCtorEq, s_class_eq, s_product_eq, s_plain_eq, s_narrow_eq, s_ashort_eq, s_mul_eq, s_high_eq, s_highMixed_eq, s_highPlain_eq, s_div_eq, s_divPlain_eq, s_rem_eq, s_remPlain_eq, h', adoU, e2]; repeat (simp (disch := omega) only [w64_d, ipos, ineg, dpos, dneg]; try simp (config := { maxSteps := 10000000 }) only [go_sem, List.reduceReplicate, BitVec.reduceOfInt, BitVec.reduceToNat, BitVec.reduceToInt, BitVec.reduceEq, BitVec.reduceLT, BitVec.reduceLE, BitVec.reduceAdd, BitVec.reduceSub, BitVec.reduceMul, BitVec.reduceUDiv, BitVec.reduceUMod, BitVec.reduceAnd, BitVec.reduceOr, BitVec.reduceXOr, BitVec.reduceNot, BitVec.reduceNeg, BitVec.reduceHShiftLeft, BitVec.reduceHShiftRight, Nat.reduceAdd, Nat.reduceMul, Nat.reduceSub, Nat.reduceBEq, Nat.reduceEqDiff, Nat.reduceLeDiff, Nat.reduceLT, Int.reduceLE, Int.reduceLT, Int.reduceAdd, Int.reduceSub, Int.reduceMul, Int.reduceNeg, Int.reduceToNat, Int.reduceEq, ↓reduceIte, reduceCtorEq, s_class_eq, s_product_eq, s_plain_eq, s_narrow_eq, s_ashort_eq, s_mul_eq, s_high_eq, s_highMixed_eq, s_highPlain_eq, s_div_eq, s_divPlain_eq, s_rem_eq, s_remPlain_eq, h', adoU, e2]))
        · have e1 : 22 ≤ op := by omega
          (try simp (config := { maxSteps := 10000000 }) only [go_sem, List.reduceReplicate, BitVec.reduceOfInt, BitVec.reduceToNat, BitVec.reduceToInt, BitVec.reduceEq, BitVec.reduceLT, BitVec.reduceLE, BitVec.reduceAdd, BitVec.reduceSub, BitVec.reduceMul, BitVec.reduceUDiv, BitVec.reduceUMod, BitVec.reduceAnd, BitVec.reduceOr, BitVec.reduceXOr, BitVec.reduceNot, BitVec.reduceNeg, BitVec.reduceHShiftLeft, BitVec.reduceHShiftRight, Nat.reduceAdd, Nat.reduceMul, Nat.reduceSub, Nat.reduceBEq, Nat.reduceEqDiff, Nat.reduceLeDiff, Nat.reduceLT, Int.reduceLE, Int.reduceLT, Int.reduceAdd, Int.reduceSub, Int.reduceMul, Int.reduceNeg, Int.reduceToNat, Int.reduceEq, ↓reduceIte, reduceCtorEq, s_class_eq, s_product_eq, s_plain_eq, s_narrow_eq, s_ashort_eq, s_mul_eq, s_high_eq, s_highMixed_eq, s_highPlain_eq, s_div_eq, s_divPlain_eq, s_rem_eq, s_remPlain_eq, h', adoU, e1]; repeat (simp (disch := omega) only [w64_d, ipos, ineg, dpos, dneg]; try simp (config := { maxSteps := 10000000 }) only [go_sem, List.reduceReplicate, BitVec.reduceOfInt, BitVec.reduceToNat, BitVec.reduceToInt, BitVec.reduceEq, BitVec.reduceLT, BitVec.reduceLE, BitVec.reduceAdd, BitVec.reduceSub, BitVec.reduceMul, BitVec.reduceUDiv, BitVec.reduceUMod, BitVec.reduceAnd, BitVec.reduceOr, BitVec.reduceXOr, BitVec.reduceNot, BitVec.reduceNeg, BitVec.reduceHShiftLeft, BitVec.reduceHShiftRight, Nat.reduceAdd, Nat.reduceMul, Nat.reduceSub, Nat.reduceBEq, Nat.reduceEqDiff, Nat.reduceLeDiff, Nat.reduceLT, Int.reduceLE, Int.reduceLT, Int.reduceAdd, Int.reduceSub, Int.reduceMul, Int.reduceNeg, Int.reduceToNat, Int.reduceEq, ↓reduceIte, reduceCtorEq, s_class_eq, s_product_eq, s_plain_eq, s_narrow_eq, s_ashort_eq, s_mul_eq, s_high_eq, s_highMixed_eq, s_highPlain_eq, s_div_eq, s_divPlain_eq, s_rem_eq, s_remPlain_eq, h', adoU, e1]))
    · (try simp (config := { maxSteps := 10000000 }) only [go_sem, List.reduceReplicate, BitVec.reduceOfInt, BitVec.reduceToNat, BitVec.reduceToInt, BitVec.reduceEq, BitVec.reduceLT, BitVec.reduceLE, BitVec.reduceAdd, BitVec.reduceSub, BitVec.reduceMul, BitVec.reduceUDiv, BitVec.reduceUMod, BitVec.reduceAnd, BitVec.reduceOr, BitVec.reduceXOr, BitVec.reduceNot, BitVec.reduceNeg, BitVec.reduceHShiftLeft, BitVec.reduceHShiftRight, Nat.reduceAdd, Nat.reduceMul, Nat.reduceSub, Nat.reduceBEq, Nat.reduceEqDiff, Nat.reduceLeDiff, Nat.reduceLT, Int.reduceLE, Int.reduceLT, Int.reduceAdd, Int.reduceSub, Int.reduceMul, Int.reduceNeg, Int.reduceToNat, Int.reduceEq, ↓reduceIte, reduceCtorEq, s_class_eq, s_product_eq, s_plain_eq, s_narrow_eq, s_ashort_eq, s_mul_eq, s_high_eq, s_highMixed_eq, s_highPlain_eq, s_div_eq, s_divPlain_eq, s_rem_eq, s_remPlain_eq, h, adoU]; repeat (simp (disch := omega) only [w64_d, ipos, ineg, dpos, dneg]; try simp (config := { maxSteps := 10000000 }) only [go_sem, List.reduceReplicate, BitVec.reduceOfInt, BitVec.reduceToNat, BitVec.reduceToInt, BitVec.reduceEq, BitVec.reduceLT, BitVec.reduceLE, BitVec.reduceAdd, BitVec.reduceSub, BitVec.reduceMul, BitVec.reduceUDiv, BitVec.reduceUMod, BitVec.reduceAnd, BitVec.reduceOr, BitVec.reduceXOr, BitVec.reduceNot, BitVec.reduceNeg, BitVec.reduceHShiftLeft, BitVec.reduceHShiftRight, Nat.reduceAdd, Nat.reduceMul, Nat.reduceSub, Nat.reduceBEq, Nat.reduceEqDiff, Nat.reduceLeDiff, Nat.reduceLT, Int.reduceLE, Int.reduceLT, Int.reduceAdd, Int.reduceSub, Int.reduceMul, Int.reduceNeg, Int.reduceToNat, Int.reduceEq, ↓reduceIte, reduceCtorEq, s_class_eq, s_product_eq, s_plain_eq, s_narrow_eq, s_ashort_eq, s_mul_eq, s_high_eq, s_highMixed_eq, s_highPlain_eq, s_div_eq, s_divPlain_eq, s_rem_eq, s_remPlain_eq, h, adoU]))
  · simp at h

end
end Go.Proofs.Ytjlbgjhnhhihoaa
