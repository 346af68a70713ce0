/- Layer 7's reference: contracts. -/
import Derived.Test.YtflcjnekmjdckaaA1
import Derived.Test.YtflcjnekmjdckaaL1
namespace Go.Proofs.Ytflcjnekmjdckaa
open Go.Am
set_option linter.unusedSimpArgs false
set_option linter.unusedVariables false
noncomputable section

def s_one7 (args : List AV) : Option AV :=
  match args with
  | [.c (.b q)] => some (.c (.u (b2 q)))
  | _ => none
theorem s_one7_eq {q} : s_one7 [.c (.b q)] = some (.c (.u (b2 q))) := rfl
set_option maxRecDepth 100000 in
set_option maxHeartbeats 2000000 in
theorem ok_one7 : PuOk Try.prog 54 s_one7 := by
  refine pu_ok (tab := []) hmix TabOk.nil Try.func54 rfl Try.results54 Try.ntmps54 (by kernel_rfl) (by kernel_rfl) ?_
  intro args v h
  unfold s_one7 at h
  split at h
  · rename_i q
    simp only [Option.some.injEq] at h; subst h
    refine ⟨by simp only [List.length_cons, List.length_nil]; decide, rfl, rfl, ?_⟩
    cases q
    all_goals (try simp (config := { maxSteps := 10000000 }) only [go_sem, seval, b2]; repeat (simp (disch := omega) only [w64_d, ipos, ineg, dpos, dneg]; try simp (config := { maxSteps := 10000000 }) only [go_sem, seval, b2]))
  · simp at h
def lgB (a b mn mx : BitVec 64) (i : Nat) : Bool := decide (mn ≤ b2 (a.getLsbD i) + b2 (b.getLsbD i)) && decide (b2 (a.getLsbD i) + b2 (b.getLsbD i) ≤ mx)
def s_logic (args : List AV) : Option AV :=
  match args with
  | [.c (.u a), .c (.u b), .c (.u mn), .c (.u mx)] => some (.c (.u (ofG (lgB a b mn mx))))
  | _ => none
theorem s_logic_eq {a b mn mx} : s_logic [.c (.u a), .c (.u b), .c (.u mn), .c (.u mx)] = some (.c (.u (ofG (lgB a b mn mx)))) := rfl
set_option maxRecDepth 100000 in
set_option maxHeartbeats 2000000 in
theorem ok_logic : PuOk Try.prog 55 s_logic := by
  refine pu_ok (tab := [(50, .pu s_bit), (54, .pu s_one7), (51, .fq s_of)]) hmix (TabOk.cons (e := .pu s_bit) ok_bit (TabOk.cons (e := .pu s_one7) ok_one7 (TabOk.cons (e := .fq s_of) ok_of TabOk.nil))) Try.func55 rfl Try.results55 Try.ntmps55 (by kernel_rfl) (by kernel_rfl) ?_
  intro args v h
  unfold s_logic at h
  split at h
  · rename_i a b mn mx
    simp only [Option.some.injEq] at h; subst h
    refine ⟨by simp only [List.length_cons, List.length_nil]; decide, rfl, rfl, ?_⟩
    simp (config := { maxSteps := 10000000 }) only [go_sem, seval, s_bit_eq, s_one7_eq, s_of_eq]
    refine arun_for 64 (fun k => ([(0, .c (.u a)), (1, .c (.u b)), (2, .c (.u mn)), (3, .c (.u mx)), (9, .c (.sl 0 0 k k)), (10, .c (.i k))], [.vec 1 (lst (lgB a b mn mx) k)])) ?_ fun k hk => ?_
    · exact Wk.trans (Wk.nil 9 1 (by decide) rfl (Nat.zero_le _)) (Wk.wk (Nat.zero_le _) (by simp [Am.get]) rfl ⟨.inr rfl, trivial⟩ rfl)
    · by_cases hlt : k < 64
      · have e1 : w64 ((k : Int) + 1) = ((k + 1 : Nat) : Int) := by rw [w64_of (by omega)]; omega
        have e5 : (k + 1) * 8 ≤ 1099511627776 := by omega
        have hg : lgB a b mn mx k = (decide (mn ≤ b2 (a.getLsbD k) + b2 (b.getLsbD k)) && decide (b2 (a.getLsbD k) + b2 (b.getLsbD k) ≤ mx)) := rfl
        by_cases h1 : mn ≤ b2 (a.getLsbD k) + b2 (b.getLsbD k)
        all_goals (try simp (config := { maxSteps := 10000000 }) only [go_sem, seval, s_bit_eq, s_one7_eq, s_of_eq, bitU_n, e1, e5, lst_len, h1]; repeat (simp (disch := omega) only [w64_d, ipos, ineg, dpos, dneg]; try simp (config := { maxSteps := 10000000 }) only [go_sem, seval, s_bit_eq, s_one7_eq, s_of_eq, bitU_n, e1, e5, lst_len, h1]))
        all_goals exact ⟨k + 1, by omega, by omega, Wk.wk (Nat.zero_le _) (by simp [Am.get]) rfl ⟨.inr (by simp [lst_succ, hg, h1]), trivial⟩ (by simp [AObj.cells, AObj.scs, lst_bel])⟩
      · obtain rfl : k = 64 := by omega
        (try simp (config := { maxSteps := 10000000 }) only [go_sem, seval, s_bit_eq, s_one7_eq, s_of_eq, lst_len, lst_cells, ofW_eq]; repeat (simp (disch := omega) only [w64_d, ipos, ineg, dpos, dneg]; try simp (config := { maxSteps := 10000000 }) only [go_sem, seval, s_bit_eq, s_one7_eq, s_of_eq, lst_len, lst_cells, ofW_eq]))
  · simp at h
theorem lg_xor (a b : BitVec 64) : ofG (lgB a b 1#64 1#64) = a ^^^ b := by
  refine (ofG_ext fun i hi => ?_).symm
  rw [BitVec.getLsbD_xor]; unfold lgB b2
  cases a.getLsbD i <;> cases b.getLsbD i <;> decide
theorem lg_or (a b : BitVec 64) : ofG (lgB a b 1#64 2#64) = a ||| b := by
  refine (ofG_ext fun i hi => ?_).symm
  rw [BitVec.getLsbD_or]; unfold lgB b2
  cases a.getLsbD i <;> cases b.getLsbD i <;> decide
theorem lg_and (a b : BitVec 64) : ofG (lgB a b 2#64 2#64) = a &&& b := by
  refine (ofG_ext fun i hi => ?_).symm
  rw [BitVec.getLsbD_and]; unfold lgB b2
  cases a.getLsbD i <;> cases b.getLsbD i <;> decide
theorem lo_eq (a b : BitVec 64) : timesLo a b = a * b := by
  have t := times_nat a b
  apply BitVec.eq_of_toNat_eq
  have l := (timesLo a b).isLt
  rw [BitVec.toNat_mul, ← t]
  omega
theorem rh_0 (a b : BitVec 64) : rhighU a b 0 = timesHi a b := by simp [rhighU, dropU]
theorem rh_1 (a b : BitVec 64) : rhighU a b 1 = highMixedU a b := by rw [mixed_eq]; simp [rhighU, dropU]
theorem rh_2 (a b : BitVec 64) : rhighU a b 2 = highU a b := by rw [high_eq]; simp [rhighU, dropU]
theorem ofF_t (a : BitVec 64) : ofF true a = lowU a 32 := rfl
theorem ofF_f (a : BitVec 64) : ofF false a = signU a 32 := rfl
def codeP (s : ByteArray) : Int :=
  if s = (⟨#[109, 117, 108]⟩ : ByteArray) then 54 else
  if s = (⟨#[109, 117, 108, 104]⟩ : ByteArray) then 55 else
  if s = (⟨#[109, 117, 108, 104, 115, 117]⟩ : ByteArray) then 56 else
  if s = (⟨#[109, 117, 108, 104, 117]⟩ : ByteArray) then 57 else
  if s = (⟨#[100, 105, 118]⟩ : ByteArray) then 58 else
  if s = (⟨#[100, 105, 118, 117]⟩ : ByteArray) then 59 else
  if s = (⟨#[114, 101, 109]⟩ : ByteArray) then 60 else
  if s = (⟨#[114, 101, 109, 117]⟩ : ByteArray) then 61 else
  if s = (⟨#[109, 117, 108, 119]⟩ : ByteArray) then 62 else
  if s = (⟨#[100, 105, 118, 119]⟩ : ByteArray) then 63 else
  if s = (⟨#[100, 105, 118, 117, 119]⟩ : ByteArray) then 64 else
  if s = (⟨#[114, 101, 109, 119]⟩ : ByteArray) then 65 else 66
def codeS (s : ByteArray) : Int :=
  if s = (⟨#[97, 100, 100]⟩ : ByteArray) then 31 else
  if s = (⟨#[115, 117, 98]⟩ : ByteArray) then 32 else
  if s = (⟨#[115, 108, 108]⟩ : ByteArray) then 33 else
  if s = (⟨#[115, 114, 108]⟩ : ByteArray) then 37 else
  if s = (⟨#[115, 114, 97]⟩ : ByteArray) then 38 else
  if s = (⟨#[115, 108, 116]⟩ : ByteArray) then 34 else
  if s = (⟨#[115, 108, 116, 117]⟩ : ByteArray) then 35 else
  if s = (⟨#[120, 111, 114]⟩ : ByteArray) then 36 else
  if s = (⟨#[111, 114]⟩ : ByteArray) then 39 else
  if s = (⟨#[97, 110, 100]⟩ : ByteArray) then 40 else
  if s = (⟨#[97, 100, 100, 119]⟩ : ByteArray) then 45 else
  if s = (⟨#[115, 117, 98, 119]⟩ : ByteArray) then 46 else
  if s = (⟨#[115, 108, 108, 119]⟩ : ByteArray) then 47 else
  if s = (⟨#[115, 114, 108, 119]⟩ : ByteArray) then 48 else
  if s = (⟨#[115, 114, 97, 119]⟩ : ByteArray) then 49 else codeP s
def nameS (s : ByteArray) : ByteArray :=
  if s = (⟨#[97, 100, 100, 105]⟩ : ByteArray) then s.extract 0 (s.size - 1) else
  if s = (⟨#[115, 108, 116, 105]⟩ : ByteArray) then s.extract 0 (s.size - 1) else
  if s = (⟨#[120, 111, 114, 105]⟩ : ByteArray) then s.extract 0 (s.size - 1) else
  if s = (⟨#[111, 114, 105]⟩ : ByteArray) then s.extract 0 (s.size - 1) else
  if s = (⟨#[97, 110, 100, 105]⟩ : ByteArray) then s.extract 0 (s.size - 1) else
  if s = (⟨#[115, 108, 108, 105]⟩ : ByteArray) then s.extract 0 (s.size - 1) else
  if s = (⟨#[115, 114, 108, 105]⟩ : ByteArray) then s.extract 0 (s.size - 1) else
  if s = (⟨#[115, 114, 97, 105]⟩ : ByteArray) then s.extract 0 (s.size - 1) else
  if s = (⟨#[115, 108, 116, 105, 117]⟩ : ByteArray) then (⟨#[115, 108, 116, 117]⟩ : ByteArray) else
  if s = (⟨#[97, 100, 100, 105, 119]⟩ : ByteArray) then s.extract 0 (s.size - 2) ++ (⟨#[119]⟩ : ByteArray) else
  if s = (⟨#[115, 108, 108, 105, 119]⟩ : ByteArray) then s.extract 0 (s.size - 2) ++ (⟨#[119]⟩ : ByteArray) else
  if s = (⟨#[115, 114, 108, 105, 119]⟩ : ByteArray) then s.extract 0 (s.size - 2) ++ (⟨#[119]⟩ : ByteArray) else
  if s = (⟨#[115, 114, 97, 105, 119]⟩ : ByteArray) then s.extract 0 (s.size - 2) ++ (⟨#[119]⟩ : ByteArray) else s
def nameA (op : Int) : ByteArray := if classI op = 1 then nameS (nm op.toNat) else ⟨#[]⟩
theorem nameS_size : ∀ k, k < 99 → (nm k).size ≤ 100 ∧ (classI k = 1 → 1 ≤ (nm k).size ∧ (nameS (nm k)).size ≤ 100 ∧ ¬ nameS (nm k) = ⟨#[]⟩ ∧ codeS (nameS (nm k)) = canI k) := by decide +kernel
def s_name7 (args : List AV) : Option AV :=
  match args with
  | [.c (.i op)] => some (.c (.s (nameA op)))
  | _ => none
theorem s_name7_eq {op} : s_name7 [.c (.i op)] = some (.c (.s (nameA op))) := rfl
set_option maxRecDepth 100000 in
set_option maxHeartbeats 2000000 in
theorem ok_name7 : PuOk Try.prog 52 s_name7 := by
  refine pu_ok (tab := [(46, .pu s_rclass), (47, .fp s_names)]) hmix (TabOk.cons (e := .pu s_rclass) ok_rclass (TabOk.cons (e := .fp s_names) ok_names TabOk.nil)) Try.func52 rfl Try.results52 Try.ntmps52 (by kernel_rfl) (by kernel_rfl) ?_
  intro args v h
  unfold s_name7 at h
  split at h
  · rename_i op
    simp only [Option.some.injEq] at h; subst h
    refine ⟨by simp only [List.length_cons, List.length_nil]; decide, rfl, rfl, ?_⟩
    by_cases h : classI op = 1
    · have h' := h
      rw [class_1] at h
      have e : nameA op = nameS (nm op.toNat) := by unfold nameA; rw [if_pos h']
      rw [e]
      obtain ⟨k, rfl⟩ := Int.eq_ofNat_of_zero_le (by omega : 0 ≤ op)
      have g := nmL_get (k := k) (by omega)
      obtain ⟨z1, z2⟩ := nm_size k (by omega) (by omega)
      rw [Int.toNat_natCast]
      generalize nm k = s at *
      (try simp (config := { maxSteps := 10000000 }) only [go_sem, seval, s_rclass_eq, s_names_eq, h', nmL_len, g]; repeat (simp (disch := omega) only [w64_d, ipos, ineg, dpos, dneg]; try simp (config := { maxSteps := 10000000 }) only [go_sem, seval, s_rclass_eq, s_names_eq, h', nmL_len, g]))
      repeat' (first
        | (refine cnd_by (fun h => ?_) (fun h => ?_) <;> (try simp only [decide_eq_true_eq, decide_eq_false_iff_not, Bool.not_eq_true', Bool.not_eq_false', Bool.not_eq_true, Bool.not_eq_false, Bool.and_eq_true, beq_iff_eq, beq_eq_false_iff_ne, ne_eq, Bool.or_eq_true] at h) <;> ((try simp (config := { maxSteps := 10000000 }) only [go_sem, seval, s_rclass_eq, s_names_eq, ByteArray.size_extract, h]; repeat (simp (disch := omega) only [w64_d, ipos, ineg, dpos, dneg]; try simp (config := { maxSteps := 10000000 }) only [go_sem, seval, s_rclass_eq, s_names_eq, ByteArray.size_extract, h]))))
        | (refine grd_by (fun h => ?_) (fun h => ?_) <;> (try simp only [decide_eq_true_eq, decide_eq_false_iff_not, Bool.not_eq_true', Bool.not_eq_false', Bool.not_eq_true, Bool.not_eq_false, Bool.and_eq_true, beq_iff_eq, beq_eq_false_iff_ne, ne_eq, Bool.or_eq_true] at h) <;> ((try simp (config := { maxSteps := 10000000 }) only [go_sem, seval, s_rclass_eq, s_names_eq, ByteArray.size_extract, h]; repeat (simp (disch := omega) only [w64_d, ipos, ineg, dpos, dneg]; try simp (config := { maxSteps := 10000000 }) only [go_sem, seval, s_rclass_eq, s_names_eq, ByteArray.size_extract, h]))))
        | (refine grdd_by (fun h => ?_) (fun h => ?_) <;> (try simp only [decide_eq_true_eq, decide_eq_false_iff_not, Bool.not_eq_true', Bool.not_eq_false', Bool.not_eq_true, Bool.not_eq_false, Bool.and_eq_true, beq_iff_eq, beq_eq_false_iff_ne, ne_eq, Bool.or_eq_true] at h) <;> ((try simp (config := { maxSteps := 10000000 }) only [go_sem, seval, s_rclass_eq, s_names_eq, ByteArray.size_extract, h]; repeat (simp (disch := omega) only [w64_d, ipos, ineg, dpos, dneg]; try simp (config := { maxSteps := 10000000 }) only [go_sem, seval, s_rclass_eq, s_names_eq, ByteArray.size_extract, h])))))
      all_goals first | (simp [nameS, *]; done) | (simp [nameS, *]; rfl)
    · have e : nameA op = ⟨#[]⟩ := by unfold nameA; rw [if_neg h]
      (try simp (config := { maxSteps := 10000000 }) only [go_sem, seval, s_rclass_eq, s_names_eq, h, e]; repeat (simp (disch := omega) only [w64_d, ipos, ineg, dpos, dneg]; try simp (config := { maxSteps := 10000000 }) only [go_sem, seval, s_rclass_eq, s_names_eq, h, e]))
  · simp at h
def s_product7 (args : List AV) : Option AV :=
  match args with
  | [.c (.s s), .c (.u a), .c (.u b)] => some (.c (.u (aluV (codeP s) a b)))
  | _ => none
theorem s_product7_eq {s a b} : s_product7 [.c (.s s), .c (.u a), .c (.u b)] = some (.c (.u (aluV (codeP s) a b))) := rfl
set_option maxRecDepth 100000 in
set_option maxHeartbeats 2000000 in
theorem ok_product7 : PuOk Try.prog 56 s_product7 := by
  refine pu_ok (tab := [(73, .pu s_rhalf), (74, .pu s_rtimes), (75, .pu s_rhigh), (76, .pu s_refDiv), (77, .pu s_refRem), (24, .pu s_rsign)]) hmix (TabOk.cons (e := .pu s_rhalf) ok_rhalf (TabOk.cons (e := .pu s_rtimes) ok_rtimes (TabOk.cons (e := .pu s_rhigh) ok_rhigh (TabOk.cons (e := .pu s_refDiv) ok_refDiv (TabOk.cons (e := .pu s_refRem) ok_refRem (TabOk.cons (e := .pu s_rsign) ok_rsign TabOk.nil)))))) Try.func56 rfl Try.results56 Try.ntmps56 (by kernel_rfl) (by kernel_rfl) ?_
  intro args v h
  unfold s_product7 at h
  split at h
  · rename_i s a b
    simp only [Option.some.injEq] at h; subst h
    refine ⟨by simp only [List.length_cons, List.length_nil]; decide, rfl, rfl, ?_⟩
    have i1 : inR 32 := ⟨by omega, by omega⟩
    (try simp (config := { maxSteps := 10000000 }) only [go_sem, seval, s_rhalf_eq, s_rtimes_eq, s_rhigh_eq, s_refDiv_eq, s_refRem_eq, s_rsign_eq, ofF_t, ofF_f]; repeat (simp (disch := omega) only [w64_d, ipos, ineg, dpos, dneg]; try simp (config := { maxSteps := 10000000 }) only [go_sem, seval, s_rhalf_eq, s_rtimes_eq, s_rhigh_eq, s_refDiv_eq, s_refRem_eq, s_rsign_eq, ofF_t, ofF_f]))
    repeat' (first
      | (refine cnd_by (fun h => ?_) (fun h => ?_) <;> (try simp only [decide_eq_true_eq, decide_eq_false_iff_not, Bool.not_eq_true', Bool.not_eq_false', Bool.not_eq_true, Bool.not_eq_false, Bool.and_eq_true, beq_iff_eq, beq_eq_false_iff_ne, ne_eq, Bool.or_eq_true] at h) <;> ((try simp (config := { maxSteps := 10000000 }) only [go_sem, seval, s_rhalf_eq, s_rtimes_eq, s_rhigh_eq, s_refDiv_eq, s_refRem_eq, s_rsign_eq, ofF_t, ofF_f, lo_eq, rh_0, rh_1, rh_2, i1, ← divS_ref, ← divU_ref, ← remS_ref, ← remU_ref, h]; repeat (simp (disch := omega) only [w64_d, ipos, ineg, dpos, dneg]; try simp (config := { maxSteps := 10000000 }) only [go_sem, seval, s_rhalf_eq, s_rtimes_eq, s_rhigh_eq, s_refDiv_eq, s_refRem_eq, s_rsign_eq, ofF_t, ofF_f, lo_eq, rh_0, rh_1, rh_2, i1, ← divS_ref, ← divU_ref, ← remS_ref, ← remU_ref, h]))))
      | (refine grd_by (fun h => ?_) (fun h => ?_) <;> (try simp only [decide_eq_true_eq, decide_eq_false_iff_not, Bool.not_eq_true', Bool.not_eq_false', Bool.not_eq_true, Bool.not_eq_false, Bool.and_eq_true, beq_iff_eq, beq_eq_false_iff_ne, ne_eq, Bool.or_eq_true] at h) <;> ((try simp (config := { maxSteps := 10000000 }) only [go_sem, seval, s_rhalf_eq, s_rtimes_eq, s_rhigh_eq, s_refDiv_eq, s_refRem_eq, s_rsign_eq, ofF_t, ofF_f, lo_eq, rh_0, rh_1, rh_2, i1, ← divS_ref, ← divU_ref, ← remS_ref, ← remU_ref, h]; repeat (simp (disch := omega) only [w64_d, ipos, ineg, dpos, dneg]; try simp (config := { maxSteps := 10000000 }) only [go_sem, seval, s_rhalf_eq, s_rtimes_eq, s_rhigh_eq, s_refDiv_eq, s_refRem_eq, s_rsign_eq, ofF_t, ofF_f, lo_eq, rh_0, rh_1, rh_2, i1, ← divS_ref, ← divU_ref, ← remS_ref, ← remU_ref, h]))))
      | (refine grdd_by (fun h => ?_) (fun h => ?_) <;> (try simp only [decide_eq_true_eq, decide_eq_false_iff_not, Bool.not_eq_true', Bool.not_eq_false', Bool.not_eq_true, Bool.not_eq_false, Bool.and_eq_true, beq_iff_eq, beq_eq_false_iff_ne, ne_eq, Bool.or_eq_true] at h) <;> ((try simp (config := { maxSteps := 10000000 }) only [go_sem, seval, s_rhalf_eq, s_rtimes_eq, s_rhigh_eq, s_refDiv_eq, s_refRem_eq, s_rsign_eq, ofF_t, ofF_f, lo_eq, rh_0, rh_1, rh_2, i1, ← divS_ref, ← divU_ref, ← remS_ref, ← remU_ref, h]; repeat (simp (disch := omega) only [w64_d, ipos, ineg, dpos, dneg]; try simp (config := { maxSteps := 10000000 }) only [go_sem, seval, s_rhalf_eq, s_rtimes_eq, s_rhigh_eq, s_refDiv_eq, s_refRem_eq, s_rsign_eq, ofF_t, ofF_f, lo_eq, rh_0, rh_1, rh_2, i1, ← divS_ref, ← divU_ref, ← remS_ref, ← remU_ref, h])))))
    all_goals simp only [codeP, *, if_true, if_false]
    all_goals rfl
  · simp at h
def s_rdo7 (args : List AV) : Option AV :=
  match args with
  | [.c (.i op), .c (.u a), .c (.u b)] => some (.t [.c (.u (adoU op a b)), .c (.b (decide (classI op = 1)))])
  | _ => none
theorem s_rdo7_eq {op a b} : s_rdo7 [.c (.i op), .c (.u a), .c (.u b)] = some (.t [.c (.u (adoU op a b)), .c (.b (decide (classI op = 1)))]) := rfl
set_option maxRecDepth 100000 in
set_option maxHeartbeats 2000000 in
theorem ok_rdo7 : PuOk Try.prog 26 s_rdo7 := by
  refine pu_ok (tab := [(52, .pu s_name7), (53, .pu s_rshift), (54, .pu s_one7), (23, .pu s_rless), (55, .pu s_logic), (24, .pu s_rsign), (56, .pu s_product7)]) hmix (TabOk.cons (e := .pu s_name7) ok_name7 (TabOk.cons (e := .pu s_rshift) ok_rshift (TabOk.cons (e := .pu s_one7) ok_one7 (TabOk.cons (e := .pu s_rless) ok_rless (TabOk.cons (e := .pu s_logic) ok_logic (TabOk.cons (e := .pu s_rsign) ok_rsign (TabOk.cons (e := .pu s_product7) ok_product7 TabOk.nil))))))) Try.func26 rfl Try.results26 Try.ntmps26 (by kernel_rfl) (by kernel_rfl) ?_
  intro args v h
  unfold s_rdo7 at h
  split at h
  · rename_i op a b
    simp only [Option.some.injEq] at h; subst h
    refine ⟨by simp only [List.length_cons, List.length_nil]; decide, rfl, rfl, ?_⟩
    have i1 : inR 32 := ⟨by omega, by omega⟩
    by_cases h : classI op = 1
    · have h' := h
      rw [class_1] at h
      have e : nameA op = nameS (nm op.toNat) := by unfold nameA; rw [if_pos h']
      have e2 : adoU op a b = aluV (canI op) a b := by unfold adoU; rw [if_pos h']
      obtain ⟨k, rfl⟩ := Int.eq_ofNat_of_zero_le (by omega : 0 ≤ op)
      rw [Int.toNat_natCast] at e
      obtain ⟨y1, y2⟩ := nameS_size k (by omega)
      obtain ⟨z1, z2, z3, z4⟩ := y2 h'
      generalize nameS (nm k) = s at e z2 z3 z4
      rw [e2, ← z4]
      (try simp (config := { maxSteps := 10000000 }) only [go_sem, seval, s_name7_eq, s_rshift_eq, s_one7_eq, s_rless_eq, s_logic_eq, s_rsign_eq, s_product7_eq, e, h', z3]; repeat (simp (disch := omega) only [w64_d, ipos, ineg, dpos, dneg]; try simp (config := { maxSteps := 10000000 }) only [go_sem, seval, s_name7_eq, s_rshift_eq, s_one7_eq, s_rless_eq, s_logic_eq, s_rsign_eq, s_product7_eq, e, h', z3]))
      repeat' (first
        | (refine cnd_by (fun h => ?_) (fun h => ?_) <;> (try simp only [decide_eq_true_eq, decide_eq_false_iff_not, Bool.not_eq_true', Bool.not_eq_false', Bool.not_eq_true, Bool.not_eq_false, Bool.and_eq_true, beq_iff_eq, beq_eq_false_iff_ne, ne_eq, Bool.or_eq_true] at h) <;> ((try simp (config := { maxSteps := 10000000 }) only [go_sem, seval, s_name7_eq, s_rshift_eq, s_one7_eq, s_rless_eq, s_logic_eq, s_rsign_eq, s_product7_eq, true_or, or_true, false_or, or_false, i1, lg_xor, lg_or, lg_and, sh_1, sh_2, sh_3, sh_4, sh_5, sh_6, h]; repeat (simp (disch := omega) only [w64_d, ipos, ineg, dpos, dneg]; try simp (config := { maxSteps := 10000000 }) only [go_sem, seval, s_name7_eq, s_rshift_eq, s_one7_eq, s_rless_eq, s_logic_eq, s_rsign_eq, s_product7_eq, true_or, or_true, false_or, or_false, i1, lg_xor, lg_or, lg_and, sh_1, sh_2, sh_3, sh_4, sh_5, sh_6, h]))))
        | (refine grd_by (fun h => ?_) (fun h => ?_) <;> (try simp only [decide_eq_true_eq, decide_eq_false_iff_not, Bool.not_eq_true', Bool.not_eq_false', Bool.not_eq_true, Bool.not_eq_false, Bool.and_eq_true, beq_iff_eq, beq_eq_false_iff_ne, ne_eq, Bool.or_eq_true] at h) <;> ((try simp (config := { maxSteps := 10000000 }) only [go_sem, seval, s_name7_eq, s_rshift_eq, s_one7_eq, s_rless_eq, s_logic_eq, s_rsign_eq, s_product7_eq, true_or, or_true, false_or, or_false, i1, lg_xor, lg_or, lg_and, sh_1, sh_2, sh_3, sh_4, sh_5, sh_6, h]; repeat (simp (disch := omega) only [w64_d, ipos, ineg, dpos, dneg]; try simp (config := { maxSteps := 10000000 }) only [go_sem, seval, s_name7_eq, s_rshift_eq, s_one7_eq, s_rless_eq, s_logic_eq, s_rsign_eq, s_product7_eq, true_or, or_true, false_or, or_false, i1, lg_xor, lg_or, lg_and, sh_1, sh_2, sh_3, sh_4, sh_5, sh_6, h]))))
        | (refine grdd_by (fun h => ?_) (fun h => ?_) <;> (try simp only [decide_eq_true_eq, decide_eq_false_iff_not, Bool.not_eq_true', Bool.not_eq_false', Bool.not_eq_true, Bool.not_eq_false, Bool.and_eq_true, beq_iff_eq, beq_eq_false_iff_ne, ne_eq, Bool.or_eq_true] at h) <;> ((try simp (config := { maxSteps := 10000000 }) only [go_sem, seval, s_name7_eq, s_rshift_eq, s_one7_eq, s_rless_eq, s_logic_eq, s_rsign_eq, s_product7_eq, true_or, or_true, false_or, or_false, i1, lg_xor, lg_or, lg_and, sh_1, sh_2, sh_3, sh_4, sh_5, sh_6, h]; repeat (simp (disch := omega) only [w64_d, ipos, ineg, dpos, dneg]; try simp (config := { maxSteps := 10000000 }) only [go_sem, seval, s_name7_eq, s_rshift_eq, s_one7_eq, s_rless_eq, s_logic_eq, s_rsign_eq, s_product7_eq, true_or, or_true, false_or, or_false, i1, lg_xor, lg_or, lg_and, sh_1, sh_2, sh_3, sh_4, sh_5, sh_6, h])))))
      all_goals simp only [codeS, *, if_true, if_false]
      all_goals rfl
    · have e : nameA op = ⟨#[]⟩ := by unfold nameA; rw [if_neg h]
      (try simp (config := { maxSteps := 10000000 }) only [go_sem, seval, s_name7_eq, s_rshift_eq, s_one7_eq, s_rless_eq, s_logic_eq, s_rsign_eq, s_product7_eq, h, e, adoU]; repeat (simp (disch := omega) only [w64_d, ipos, ineg, dpos, dneg]; try simp (config := { maxSteps := 10000000 }) only [go_sem, seval, s_name7_eq, s_rshift_eq, s_one7_eq, s_rless_eq, s_logic_eq, s_rsign_eq, s_product7_eq, h, e, adoU]))
  · simp at h

end
end Go.Proofs.Ytflcjnekmjdckaa
