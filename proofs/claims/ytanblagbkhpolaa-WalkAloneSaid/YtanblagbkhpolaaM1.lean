/- Layer 8: what atomic instructions do to memory: contracts, and those of the ops' sizes. -/
import Derived.Test.YtanblagbkhpolaaA2
import Derived.Test.YtanblagbkhpolaaKs
namespace Go.Proofs.Ytanblagbkhpolaa
open Go.Am
set_option linter.unusedSimpArgs false
set_option linter.unusedVariables false
noncomputable section

def linkB (op : Int) : Bool := if op = 67 then true else if op = 78 then true else false
def condB (op : Int) : Bool := if op = 68 then true else if op = 79 then true else false
def isAB (op : Int) : Bool := decide (classI op = 7) && (!linkB op && !condB op)
def s_alink (args : List AV) : Option AV :=
  match args with
  | [.c (.i op)] => some (.c (.b (linkB op)))
  | _ => none
theorem s_alink_eq {op} : s_alink [.c (.i op)] = some (.c (.b (linkB op))) := rfl
set_option maxRecDepth 100000 in
set_option maxHeartbeats 2000000 in
theorem ok_alink : PuOk Try.prog 84 s_alink := by
  refine pu_ok (tab := []) hmix TabOk.nil Try.func84 rfl Try.results84 Try.ntmps84 (by kernel_rfl) (by kernel_rfl) ?_
  intro args v h
  unfold s_alink at h
  split at h
  · rename_i op
    simp only [Option.some.injEq] at h; subst h
    refine ⟨by simp only [List.length_cons, List.length_nil]; decide, rfl, rfl, ?_⟩
    (try simp (config := { maxSteps := 10000000 }) only [go_sem, seval]; repeat (simp (disch := omega) only [w64_d, ipos, ineg, dpos, dneg]; try simp (config := { maxSteps := 10000000 }) only [go_sem, seval]))
    repeat' (first
      | (refine cnd_by (fun h => ?_) (fun h => ?_) <;> (try simp only [decide_eq_true_eq, decide_eq_false_iff_not, Bool.not_eq_true', Bool.not_eq_false', Bool.not_eq_true, Bool.not_eq_false, Bool.and_eq_true, beq_iff_eq, beq_eq_false_iff_ne, ne_eq, Bool.or_eq_true] at h) <;> ((try simp (config := { maxSteps := 10000000 }) only [go_sem, seval, h]; repeat (simp (disch := omega) only [w64_d, ipos, ineg, dpos, dneg]; try simp (config := { maxSteps := 10000000 }) only [go_sem, seval, h]))))
      | (refine grd_by (fun h => ?_) (fun h => ?_) <;> (try simp only [decide_eq_true_eq, decide_eq_false_iff_not, Bool.not_eq_true', Bool.not_eq_false', Bool.not_eq_true, Bool.not_eq_false, Bool.and_eq_true, beq_iff_eq, beq_eq_false_iff_ne, ne_eq, Bool.or_eq_true] at h) <;> ((try simp (config := { maxSteps := 10000000 }) only [go_sem, seval, h]; repeat (simp (disch := omega) only [w64_d, ipos, ineg, dpos, dneg]; try simp (config := { maxSteps := 10000000 }) only [go_sem, seval, h]))))
      | (refine grdd_by (fun h => ?_) (fun h => ?_) <;> (try simp only [decide_eq_true_eq, decide_eq_false_iff_not, Bool.not_eq_true', Bool.not_eq_false', Bool.not_eq_true, Bool.not_eq_false, Bool.and_eq_true, beq_iff_eq, beq_eq_false_iff_ne, ne_eq, Bool.or_eq_true] at h) <;> ((try simp (config := { maxSteps := 10000000 }) only [go_sem, seval, h]; repeat (simp (disch := omega) only [w64_d, ipos, ineg, dpos, dneg]; try simp (config := { maxSteps := 10000000 }) only [go_sem, seval, h])))))
    all_goals simp [linkB, *]
  · simp at h
def s_acond (args : List AV) : Option AV :=
  match args with
  | [.c (.i op)] => some (.c (.b (condB op)))
  | _ => none
theorem s_acond_eq {op} : s_acond [.c (.i op)] = some (.c (.b (condB op))) := rfl
set_option maxRecDepth 100000 in
set_option maxHeartbeats 2000000 in
theorem ok_acond : PuOk Try.prog 85 s_acond := by
  refine pu_ok (tab := []) hmix TabOk.nil Try.func85 rfl Try.results85 Try.ntmps85 (by kernel_rfl) (by kernel_rfl) ?_
  intro args v h
  unfold s_acond at h
  split at h
  · rename_i op
    simp only [Option.some.injEq] at h; subst h
    refine ⟨by simp only [List.length_cons, List.length_nil]; decide, rfl, rfl, ?_⟩
    (try simp (config := { maxSteps := 10000000 }) only [go_sem, seval]; repeat (simp (disch := omega) only [w64_d, ipos, ineg, dpos, dneg]; try simp (config := { maxSteps := 10000000 }) only [go_sem, seval]))
    repeat' (first
      | (refine cnd_by (fun h => ?_) (fun h => ?_) <;> (try simp only [decide_eq_true_eq, decide_eq_false_iff_not, Bool.not_eq_true', Bool.not_eq_false', Bool.not_eq_true, Bool.not_eq_false, Bool.and_eq_true, beq_iff_eq, beq_eq_false_iff_ne, ne_eq, Bool.or_eq_true] at h) <;> ((try simp (config := { maxSteps := 10000000 }) only [go_sem, seval, h]; repeat (simp (disch := omega) only [w64_d, ipos, ineg, dpos, dneg]; try simp (config := { maxSteps := 10000000 }) only [go_sem, seval, h]))))
      | (refine grd_by (fun h => ?_) (fun h => ?_) <;> (try simp only [decide_eq_true_eq, decide_eq_false_iff_not, Bool.not_eq_true', Bool.not_eq_false', Bool.not_eq_true, Bool.not_eq_false, Bool.and_eq_true, beq_iff_eq, beq_eq_false_iff_ne, ne_eq, Bool.or_eq_true] at h) <;> ((try simp (config := { maxSteps := 10000000 }) only [go_sem, seval, h]; repeat (simp (disch := omega) only [w64_d, ipos, ineg, dpos, dneg]; try simp (config := { maxSteps := 10000000 }) only [go_sem, seval, h]))))
      | (refine grdd_by (fun h => ?_) (fun h => ?_) <;> (try simp only [decide_eq_true_eq, decide_eq_false_iff_not, Bool.not_eq_true', Bool.not_eq_false', Bool.not_eq_true, Bool.not_eq_false, Bool.and_eq_true, beq_iff_eq, beq_eq_false_iff_ne, ne_eq, Bool.or_eq_true] at h) <;> ((try simp (config := { maxSteps := 10000000 }) only [go_sem, seval, h]; repeat (simp (disch := omega) only [w64_d, ipos, ineg, dpos, dneg]; try simp (config := { maxSteps := 10000000 }) only [go_sem, seval, h])))))
    all_goals simp [condB, *]
  · simp at h
def s_aisA (args : List AV) : Option AV :=
  match args with
  | [.c (.i op)] => some (.c (.b (isAB op)))
  | _ => none
theorem s_aisA_eq {op} : s_aisA [.c (.i op)] = some (.c (.b (isAB op))) := rfl
set_option maxRecDepth 100000 in
set_option maxHeartbeats 2000000 in
theorem ok_aisA : PuOk Try.prog 71 s_aisA := by
  refine pu_ok (tab := [(94, .pu s_class), (84, .pu s_alink), (85, .pu s_acond)]) hmix (TabOk.cons (e := .pu s_class) ok_class (TabOk.cons (e := .pu s_alink) ok_alink (TabOk.cons (e := .pu s_acond) ok_acond TabOk.nil))) Try.func71 rfl Try.results71 Try.ntmps71 (by kernel_rfl) (by kernel_rfl) ?_
  intro args v h
  unfold s_aisA at h
  split at h
  · rename_i op
    simp only [Option.some.injEq] at h; subst h
    refine ⟨by simp only [List.length_cons, List.length_nil]; decide, rfl, rfl, ?_⟩
    by_cases h : classI op = 7
    all_goals cases h1 : linkB op
    all_goals cases h2 : condB op
    all_goals (try simp (config := { maxSteps := 10000000 }) only [go_sem, seval, s_class_eq, s_alink_eq, s_acond_eq, isAB, h, h1, h2]; repeat (simp (disch := omega) only [w64_d, ipos, ineg, dpos, dneg]; try simp (config := { maxSteps := 10000000 }) only [go_sem, seval, s_class_eq, s_alink_eq, s_acond_eq, isAB, h, h1, h2]))
  · simp at h
def wideN (op : Int) : Int := if op < 78 then op + 11 else op
def sizeA (op : Int) : Int := if op < 78 then 32 else 64
def s_awide (args : List AV) : Option AV :=
  match args with
  | [.c (.i op)] => if inR op then some (.t [.c (.i (wideN op)), .c (.i (sizeA op))]) else none
  | _ => none
theorem s_awide_eq {op} : s_awide [.c (.i op)] = if inR op then some (.t [.c (.i (wideN op)), .c (.i (sizeA op))]) else none := rfl
set_option maxRecDepth 100000 in
set_option maxHeartbeats 2000000 in
theorem ok_awide : PuOk Try.prog 72 s_awide := by
  refine pu_ok (tab := []) hmix TabOk.nil Try.func72 rfl Try.results72 Try.ntmps72 (by kernel_rfl) (by kernel_rfl) ?_
  intro args v h
  unfold s_awide at h
  split at h
  · rename_i op
    split at h
    · rename_i hc
      simp only [Option.some.injEq] at h; subst h
      refine ⟨by simp only [List.length_cons, List.length_nil]; decide, rfl, rfl, ?_⟩
      obtain ⟨i1, i2⟩ := hc
      (try simp (config := { maxSteps := 10000000 }) only [go_sem, seval]; repeat (simp (disch := omega) only [w64_d, ipos, ineg, dpos, dneg]; try simp (config := { maxSteps := 10000000 }) only [go_sem, seval]))
      repeat' (first
        | (refine cnd_by (fun h => ?_) (fun h => ?_) <;> (try simp only [decide_eq_true_eq, decide_eq_false_iff_not, Bool.not_eq_true', Bool.not_eq_false', Bool.not_eq_true, Bool.not_eq_false, Bool.and_eq_true, beq_iff_eq, beq_eq_false_iff_ne, ne_eq, Bool.or_eq_true] at h) <;> ((try simp (config := { maxSteps := 10000000 }) only [go_sem, seval, h]; repeat (simp (disch := omega) only [w64_d, ipos, ineg, dpos, dneg]; try simp (config := { maxSteps := 10000000 }) only [go_sem, seval, h]))))
        | (refine grd_by (fun h => ?_) (fun h => ?_) <;> (try simp only [decide_eq_true_eq, decide_eq_false_iff_not, Bool.not_eq_true', Bool.not_eq_false', Bool.not_eq_true, Bool.not_eq_false, Bool.and_eq_true, beq_iff_eq, beq_eq_false_iff_ne, ne_eq, Bool.or_eq_true] at h) <;> ((try simp (config := { maxSteps := 10000000 }) only [go_sem, seval, h]; repeat (simp (disch := omega) only [w64_d, ipos, ineg, dpos, dneg]; try simp (config := { maxSteps := 10000000 }) only [go_sem, seval, h]))))
        | (refine grdd_by (fun h => ?_) (fun h => ?_) <;> (try simp only [decide_eq_true_eq, decide_eq_false_iff_not, Bool.not_eq_true', Bool.not_eq_false', Bool.not_eq_true, Bool.not_eq_false, Bool.and_eq_true, beq_iff_eq, beq_eq_false_iff_ne, ne_eq, Bool.or_eq_true] at h) <;> ((try simp (config := { maxSteps := 10000000 }) only [go_sem, seval, h]; repeat (simp (disch := omega) only [w64_d, ipos, ineg, dpos, dneg]; try simp (config := { maxSteps := 10000000 }) only [go_sem, seval, h])))))
      all_goals simp [wideN, sizeA, *]
      all_goals try (intro h; omega)
    · simp at h
  · simp at h
def lessI (a b : Int) (g : Bool) : Int := if decide (b < a) = g then a else b
def lessW (a b : BitVec 64) (g : Bool) : BitVec 64 := if decide (b < a) = g then a else b
def s_lesserI (args : List AV) : Option AV :=
  match args with
  | [.c (.i a), .c (.i b), .c (.b g)] => some (.c (.i (lessI a b g)))
  | _ => none
theorem s_lesserI_eq {a b g} : s_lesserI [.c (.i a), .c (.i b), .c (.b g)] = some (.c (.i (lessI a b g))) := rfl
set_option maxRecDepth 100000 in
set_option maxHeartbeats 2000000 in
theorem ok_lesserI : PuOk Try.prog 73 s_lesserI := by
  refine pu_ok (tab := []) hmix TabOk.nil Try.func73 rfl Try.results73 Try.ntmps73 (by kernel_rfl) (by kernel_rfl) ?_
  intro args v h
  unfold s_lesserI at h
  split at h
  · rename_i a b g
    simp only [Option.some.injEq] at h; subst h
    refine ⟨by simp only [List.length_cons, List.length_nil]; decide, rfl, rfl, ?_⟩
    by_cases h : b < a
    all_goals cases g
    all_goals (try simp (config := { maxSteps := 10000000 }) only [go_sem, seval, lessI, h]; repeat (simp (disch := omega) only [w64_d, ipos, ineg, dpos, dneg]; try simp (config := { maxSteps := 10000000 }) only [go_sem, seval, lessI, h]))
  · simp at h
def s_lesserW (args : List AV) : Option AV :=
  match args with
  | [.c (.u a), .c (.u b), .c (.b g)] => some (.c (.u (lessW a b g)))
  | _ => none
theorem s_lesserW_eq {a b g} : s_lesserW [.c (.u a), .c (.u b), .c (.b g)] = some (.c (.u (lessW a b g))) := rfl
set_option maxRecDepth 100000 in
set_option maxHeartbeats 2000000 in
theorem ok_lesserW : PuOk Try.prog 74 s_lesserW := by
  refine pu_ok (tab := []) hmix TabOk.nil Try.func74 rfl Try.results74 Try.ntmps74 (by kernel_rfl) (by kernel_rfl) ?_
  intro args v h
  unfold s_lesserW at h
  split at h
  · rename_i a b g
    simp only [Option.some.injEq] at h; subst h
    refine ⟨by simp only [List.length_cons, List.length_nil]; decide, rfl, rfl, ?_⟩
    by_cases h : b < a
    all_goals cases g
    all_goals (try simp (config := { maxSteps := 10000000 }) only [go_sem, seval, lessW, h]; repeat (simp (disch := omega) only [w64_d, ipos, ineg, dpos, dneg]; try simp (config := { maxSteps := 10000000 }) only [go_sem, seval, lessW, h]))
  · simp at h
theorem class_7 {op : Int} : (classI op = 7) = (67 ≤ op ∧ op ≤ 88) := by
  apply propext
  simp only [classI, wiB, Bool.and_eq_true, decide_eq_true_eq]
  repeat' split
  all_goals omega
theorem isA_eq {op : Int} : (isAB op = true) = ((69 ≤ op ∧ op ≤ 77) ∨ (80 ≤ op ∧ op ≤ 88)) := by
  apply propext
  simp only [isAB, class_7, linkB, condB, Bool.and_eq_true, Bool.not_eq_true', decide_eq_true_eq]
  repeat' split
  all_goals simp
  all_goals omega
/-- what stands in memory behind an op (told by its number of 64 bits): of m and x, of some size -/
def amoV (c s : Int) (m x : BitVec 64) : BitVec 64 :=
  if c = 80 then lowU x s else if c = 81 then lowU (lowU m s + lowU x s) s else if c = 82 then lowU m s ^^^ lowU x s else if c = 83 then lowU m s &&& lowU x s else if c = 84 then lowU m s ||| lowU x s else
  if c = 85 then (if (signU x s).toInt < (signU m s).toInt then lowU x s else lowU m s) else if c = 86 then (if (signU x s).toInt < (signU m s).toInt then lowU m s else lowU x s) else
  if c = 87 then (if lowU x s < lowU m s then lowU x s else lowU m s) else (if lowU x s < lowU m s then lowU m s else lowU x s)
def amoU (op : Int) (m x : BitVec 64) : BitVec 64 := if isAB op = true then amoV (wideN op) (sizeA op) m x else 0#64
theorem low_g (w : BitVec 64) (s : Int) (i : Nat) (hi : i < 64) : (lowU w s).getLsbD i = (decide ((i : Int) < s) && w.getLsbD i) := by unfold lowU; rw [ofG_get hi]
theorem ext64 {x y : BitVec 64} (h : ∀ i, i < 64 → x.getLsbD i = y.getLsbD i) : x = y := BitVec.eq_of_getLsbD_eq h
theorem low_64 (w : BitVec 64) : lowU w 64 = w := ext64 fun i hi => by rw [low_g _ _ _ hi, decide_eq_true (by omega)]; rfl
theorem low_low (w : BitVec 64) (s : Int) : lowU (lowU w s) s = lowU w s := ext64 fun i hi => by rw [low_g _ _ _ hi, low_g _ _ _ hi]; cases decide ((i : Int) < s) <;> rfl
theorem cut_low (w : BitVec 64) (s : Int) : cutU w 0 s = lowU w s := ext64 fun i hi => by
  rw [low_g _ _ _ hi]; unfold cutU; rw [ofG_get hi, show (0 : Int) + (i : Int) = (i : Int) by omega, bitB_n]
theorem sgn32 (w : BitVec 64) (i : Nat) (hi : i < 64) : (signU w 32).getLsbD i = if i < 32 then w.getLsbD i else w.getLsbD 31 := by
  unfold signU
  rw [ofG_get hi]
  have : bitB w (32 - 1) = w.getLsbD 31 := bitB_n (i := 31)
  simp only [show decide ((1 : Int) ≤ 32) = true from rfl, Bool.true_and, this, show ((i : Int) < 32) = (i < 32) from propext (by omega)]
theorem low_sign (w : BitVec 64) (s : Int) (h : s = 32 ∨ s = 64) : lowU (signU w s) s = lowU w s := by
  rcases h with rfl | rfl
  · refine ext64 fun i hi => ?_
    rw [low_g _ _ _ hi, low_g _ _ _ hi, sgn32 _ _ hi]
    by_cases h : i < 32
    · rw [if_pos h]
    · rw [decide_eq_false (by omega)]; rfl
  · rw [sign_all (by omega)]
theorem sign_low' (w : BitVec 64) (s : Int) (h : s = 32 ∨ s = 64) : signU (lowU w s) s = signU w s := by
  rcases h with rfl | rfl
  · refine ext64 fun i hi => ?_
    rw [sgn32 _ _ hi, sgn32 _ _ hi, low_g _ _ _ hi, low_g _ _ _ (by omega)]
    by_cases h : i < 32
    · rw [if_pos h, if_pos h, decide_eq_true (by omega)]; rfl
    · rw [if_neg h, if_neg h]; rfl
  · rw [low_64]
theorem low_xor (a b : BitVec 64) (s : Int) : lowU (lowU a s ^^^ lowU b s) s = lowU a s ^^^ lowU b s := ext64 fun i hi => by
  rw [low_g _ _ _ hi, BitVec.getLsbD_xor, low_g _ _ _ hi, low_g _ _ _ hi]; cases decide ((i : Int) < s) <;> simp
theorem low_and (a b : BitVec 64) (s : Int) : lowU (lowU a s &&& lowU b s) s = lowU a s &&& lowU b s := ext64 fun i hi => by
  rw [low_g _ _ _ hi, BitVec.getLsbD_and, low_g _ _ _ hi, low_g _ _ _ hi]; cases decide ((i : Int) < s) <;> simp
theorem low_or (a b : BitVec 64) (s : Int) : lowU (lowU a s ||| lowU b s) s = lowU a s ||| lowU b s := ext64 fun i hi => by
  rw [low_g _ _ _ hi, BitVec.getLsbD_or, low_g _ _ _ hi, low_g _ _ _ hi]; cases decide ((i : Int) < s) <;> simp
theorem ofI_toI (w : BitVec 64) : BitVec.ofInt 64 w.toInt = w := BitVec.ofInt_toInt
theorem size_or (op : Int) : sizeA op = 32 ∨ sizeA op = 64 := by unfold sizeA; split <;> simp
theorem wide_c {op : Int} (h : isAB op = true) : 80 ≤ wideN op ∧ wideN op ≤ 88 := by rw [isA_eq] at h; unfold wideN; split <;> omega
theorem lessI_f (a b : Int) : lessI a b false = if b < a then b else a := by unfold lessI; by_cases h : b < a <;> simp [h]
theorem lessI_t (a b : Int) : lessI a b true = if b < a then a else b := by unfold lessI; by_cases h : b < a <;> simp [h]
theorem lessW_f (a b : BitVec 64) : lessW a b false = if b < a then b else a := by unfold lessW; by_cases h : b < a <;> simp [h]
theorem lessW_t (a b : BitVec 64) : lessW a b true = if b < a then a else b := by unfold lessW; by_cases h : b < a <;> simp [h]
def s_amoDo (args : List AV) : Option AV :=
  match args with
  | [.c (.i op), .c (.u m), .c (.u x)] => some (.t [.c (.u (amoU op m x)), .c (.b (isAB op))])
  | _ => none
theorem s_amoDo_eq {op m x} : s_amoDo [.c (.i op), .c (.u m), .c (.u x)] = some (.t [.c (.u (amoU op m x)), .c (.b (isAB op))]) := rfl
set_option maxRecDepth 100000 in
set_option maxHeartbeats 2000000 in
theorem ok_amoDo : PuOk Try.prog 40 s_amoDo := by
  refine pu_ok (tab := [(71, .pu s_aisA), (72, .pu s_awide), (47, .pu s_low), (53, .pu s_sign), (73, .pu s_lesserI), (74, .pu s_lesserW)]) hmix (TabOk.cons (e := .pu s_aisA) ok_aisA (TabOk.cons (e := .pu s_awide) ok_awide (TabOk.cons (e := .pu s_low) ok_low (TabOk.cons (e := .pu s_sign) ok_sign (TabOk.cons (e := .pu s_lesserI) ok_lesserI (TabOk.cons (e := .pu s_lesserW) ok_lesserW TabOk.nil)))))) Try.func40 rfl Try.results40 Try.ntmps40 (by kernel_rfl) (by kernel_rfl) ?_
  intro args v h
  unfold s_amoDo at h
  split at h
  · rename_i op m x
    simp only [Option.some.injEq] at h; subst h
    refine ⟨by simp only [List.length_cons, List.length_nil]; decide, rfl, rfl, ?_⟩
    cases h : isAB op
    · (try simp (config := { maxSteps := 10000000 }) only [go_sem, seval, s_aisA_eq, s_awide_eq, s_low_eq, s_sign_eq, s_lesserI_eq, s_lesserW_eq, h, amoU]; repeat (simp (disch := omega) only [w64_d, ipos, ineg, dpos, dneg]; try simp (config := { maxSteps := 10000000 }) only [go_sem, seval, s_aisA_eq, s_awide_eq, s_low_eq, s_sign_eq, s_lesserI_eq, s_lesserW_eq, h, amoU]))
    · have hs := size_or op
      obtain ⟨c1, c2⟩ := wide_c h
      have hr : inR op := by rw [isA_eq] at h; exact ⟨by omega, by omega⟩
      have i1 : inR (sizeA op) := by rcases hs with e | e <;> rw [e] <;> exact ⟨by omega, by omega⟩
      have e : amoU op m x = amoV (wideN op) (sizeA op) m x := if_pos h
      rw [e]
      (try simp (config := { maxSteps := 10000000 }) only [go_sem, seval, s_aisA_eq, s_awide_eq, s_low_eq, s_sign_eq, s_lesserI_eq, s_lesserW_eq, h, hr, i1]; repeat (simp (disch := omega) only [w64_d, ipos, ineg, dpos, dneg]; try simp (config := { maxSteps := 10000000 }) only [go_sem, seval, s_aisA_eq, s_awide_eq, s_low_eq, s_sign_eq, s_lesserI_eq, s_lesserW_eq, h, hr, i1]))
      generalize wideN op = c at c1 c2
      generalize sizeA op = s at hs i1
      repeat' (first
        | (refine cnd_by (fun h => ?_) (fun h => ?_) <;> (try simp only [decide_eq_true_eq, decide_eq_false_iff_not, Bool.not_eq_true', Bool.not_eq_false', Bool.not_eq_true, Bool.not_eq_false, Bool.and_eq_true, beq_iff_eq, beq_eq_false_iff_ne, ne_eq, Bool.or_eq_true] at h) <;> ((try simp (config := { maxSteps := 10000000 }) only [go_sem, seval, s_aisA_eq, s_awide_eq, s_low_eq, s_sign_eq, s_lesserI_eq, s_lesserW_eq, i1, lessI_f, lessI_t, lessW_f, lessW_t, h]; repeat (simp (disch := omega) only [w64_d, ipos, ineg, dpos, dneg]; try simp (config := { maxSteps := 10000000 }) only [go_sem, seval, s_aisA_eq, s_awide_eq, s_low_eq, s_sign_eq, s_lesserI_eq, s_lesserW_eq, i1, lessI_f, lessI_t, lessW_f, lessW_t, h]))))
        | (refine grd_by (fun h => ?_) (fun h => ?_) <;> (try simp only [decide_eq_true_eq, decide_eq_false_iff_not, Bool.not_eq_true', Bool.not_eq_false', Bool.not_eq_true, Bool.not_eq_false, Bool.and_eq_true, beq_iff_eq, beq_eq_false_iff_ne, ne_eq, Bool.or_eq_true] at h) <;> ((try simp (config := { maxSteps := 10000000 }) only [go_sem, seval, s_aisA_eq, s_awide_eq, s_low_eq, s_sign_eq, s_lesserI_eq, s_lesserW_eq, i1, lessI_f, lessI_t, lessW_f, lessW_t, h]; repeat (simp (disch := omega) only [w64_d, ipos, ineg, dpos, dneg]; try simp (config := { maxSteps := 10000000 }) only [go_sem, seval, s_aisA_eq, s_awide_eq, s_low_eq, s_sign_eq, s_lesserI_eq, s_lesserW_eq, i1, lessI_f, lessI_t, lessW_f, lessW_t, h]))))
        | (refine grdd_by (fun h => ?_) (fun h => ?_) <;> (try simp only [decide_eq_true_eq, decide_eq_false_iff_not, Bool.not_eq_true', Bool.not_eq_false', Bool.not_eq_true, Bool.not_eq_false, Bool.and_eq_true, beq_iff_eq, beq_eq_false_iff_ne, ne_eq, Bool.or_eq_true] at h) <;> ((try simp (config := { maxSteps := 10000000 }) only [go_sem, seval, s_aisA_eq, s_awide_eq, s_low_eq, s_sign_eq, s_lesserI_eq, s_lesserW_eq, i1, lessI_f, lessI_t, lessW_f, lessW_t, h]; repeat (simp (disch := omega) only [w64_d, ipos, ineg, dpos, dneg]; try simp (config := { maxSteps := 10000000 }) only [go_sem, seval, s_aisA_eq, s_awide_eq, s_low_eq, s_sign_eq, s_lesserI_eq, s_lesserW_eq, i1, lessI_f, lessI_t, lessW_f, lessW_t, h])))))
      all_goals first | (simp [amoV, *]; done) | skip
      all_goals first | (by_cases hx : (signU x s).toInt < (signU m s).toInt <;> simp [amoV, ofI_toI, low_sign _ _ hs, *]; done) | skip
      all_goals (have hc : c = 87 ∨ c = 88 := by omega)
      all_goals (rcases hc with rfl | rfl <;> by_cases hx : lowU x s < lowU m s <;> simp [amoV, lessW, *])
  · simp at h
def loadU (op : Int) (m : BitVec 64) : BitVec 64 := if classI op = 7 then signU m (sizeA op) else 0#64

/-! ### the reference -/
theorem max_alt (a b : BitVec 64) : (if b < a then a else b) = if a < b then b else a := by
  by_cases h : b < a
  · have h2 : ¬ a < b := by rw [BitVec.lt_def] at h ⊢; omega
    rw [if_pos h, if_neg h2]
  · by_cases h2 : a < b
    · rw [if_neg h, if_pos h2]
    · rw [if_neg h, if_neg h2]; apply BitVec.eq_of_toNat_eq; rw [BitVec.lt_def] at h h2; omega
theorem amoV_88 (z : Int) (m x : BitVec 64) : amoV 88 z m x = if lowU m z < lowU x z then lowU x z else lowU m z := max_alt _ _
def wordA (op : Int) : ByteArray := if classI op = 7 then (nm op.toNat).extract 0 ((nm op.toNat).size - 2) else ⟨#[]⟩
def isI (op : Int) : Int := if classI op = 7 then (if linkB op = true then 2 else if condB op = true then 3 else 1) else 0
def isS (s : ByteArray) : Int := if s = ⟨#[]⟩ then 0 else if s = (⟨#[108, 114]⟩ : ByteArray) then 2 else if s = (⟨#[115, 99]⟩ : ByteArray) then 3 else 1
theorem wordA_I : ∀ k : Nat, k < 99 → isS (wordA k) = isI k := by decide +kernel
def codeM (s : ByteArray) : Int :=
  if s = (⟨#[97, 109, 111, 115, 119, 97, 112]⟩ : ByteArray) then 80 else
  if s = (⟨#[97, 109, 111, 97, 100, 100]⟩ : ByteArray) then 81 else
  if s = (⟨#[97, 109, 111, 120, 111, 114]⟩ : ByteArray) then 82 else
  if s = (⟨#[97, 109, 111, 97, 110, 100]⟩ : ByteArray) then 83 else
  if s = (⟨#[97, 109, 111, 111, 114]⟩ : ByteArray) then 84 else
  if s = (⟨#[97, 109, 111, 109, 105, 110]⟩ : ByteArray) then 85 else
  if s = (⟨#[97, 109, 111, 109, 97, 120]⟩ : ByteArray) then 86 else
  if s = (⟨#[97, 109, 111, 109, 105, 110, 117]⟩ : ByteArray) then 87 else 88
theorem codeM_I : ∀ k : Nat, k < 99 → isI k = 1 → codeM (wordA k) = wideN k ∧ sizeI k * 8 = sizeA k ∧ (wordA k = (⟨#[97, 109, 111, 109, 97, 120, 117]⟩ : ByteArray) ∨ codeM (wordA k) ≠ 88) := by decide +kernel
theorem isI_1 {op : Int} : (isI op = 1) = (isAB op = true) := by
  apply propext
  unfold isI isAB
  cases linkB op <;> cases condB op <;> by_cases h : classI op = 7 <;> simp [h]
theorem ado36 (a b : BitVec 64) : adoU 36 a b = a ^^^ b := by unfold adoU; rw [if_pos (by decide)]; rfl
theorem ado39 (a b : BitVec 64) : adoU 39 a b = a ||| b := by unfold adoU; rw [if_pos (by decide)]; rfl
theorem ado40 (a b : BitVec 64) : adoU 40 a b = a &&& b := by unfold adoU; rw [if_pos (by decide)]; rfl

end
end Go.Proofs.Ytanblagbkhpolaa
