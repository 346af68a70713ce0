/- Layer 4: the sizes of accesses, as the document tells them. -/
import Derived.Test.YtflcjnekmjdckaaGreatK1
namespace Go.Proofs.YtflcjnekmjdckaaGreat
open Go.Am
set_option linter.unusedSimpArgs false
set_option linter.unusedVariables false
noncomputable section

def sizeI (op : Int) : Int :=
  if wiB op 67 77 = true then 4 else if wiB op 78 88 = true then 8 else
  if op = 11 then 1 else if op = 12 then 2 else if op = 13 then 4 else if op = 14 then 8 else if op = 15 then 1 else if op = 16 then 2 else if op = 17 then 4 else
  if op = 18 then 1 else if op = 19 then 2 else if op = 20 then 4 else if op = 21 then 8 else 0
def sizeS (c : Int) (s : ByteArray) : Int :=
  if c = 7 then (if endsB s (⟨#[46, 119]⟩ : ByteArray) = true then 4 else 8) else
  if ((s.data.getD 1 0).toNat : Int) = 98 then 1 else if ((s.data.getD 1 0).toNat : Int) = 104 then 2 else if ((s.data.getD 1 0).toNat : Int) = 119 then 4 else 8
theorem sizeS_I : ∀ k : Nat, k < 99 → (classI k = 5 ∨ classI k = 6 ∨ classI k = 7) → sizeS (classI k) (nm k) = sizeI k ∧ 2 ≤ (nm k).size ∧ (nm k).size ≤ 100 := by decide +kernel
theorem class_in {op : Int} (h : classI op ≠ 0) : 1 ≤ op ∧ op ≤ 98 := by
  by_cases h0 : 1 ≤ op ∧ op ≤ 98
  · exact h0
  · exact (h (class_out (by omega))).elim
theorem size_0 {op : Int} (h : ¬ (classI op = 5 ∨ classI op = 6 ∨ classI op = 7)) : sizeI op = 0 := by
  by_cases h0 : 1 ≤ op ∧ op ≤ 98
  · obtain ⟨k, rfl⟩ := Int.eq_ofNat_of_zero_le (by omega : 0 ≤ op)
    have : ∀ k : Nat, k < 99 → ¬ (classI k = 5 ∨ classI k = 6 ∨ classI k = 7) → sizeI k = 0 := by decide +kernel
    exact this k (by omega) h
  · simp only [sizeI, wiB, Bool.and_eq_true, decide_eq_true_eq]
    repeat rw [if_neg (by omega)]
def s_rksize (args : List AV) : Option AV :=
  match args with
  | [.c (.i op)] => some (.c (.i (sizeI op)))
  | _ => none
theorem s_rksize_eq {op} : s_rksize [.c (.i op)] = some (.c (.i (sizeI op))) := rfl
set_option maxRecDepth 100000 in
set_option maxHeartbeats 2000000 in
theorem ok_rksize : PuOk Tryz.prog 67 s_rksize := by
  refine pu_ok (tab := [(83, .pu s_rclass), (84, .fp s_names), (85, .pu s_ends)]) hmix (TabOk.cons (e := .pu s_rclass) ok_rclass (TabOk.cons (e := .fp s_names) ok_names (TabOk.cons (e := .pu s_ends) ok_ends TabOk.nil))) Tryz.func67 rfl Tryz.results67 Tryz.ntmps67 (by kernel_rfl) (by kernel_rfl) ?_
  intro args v h
  unfold s_rksize at h
  split at h
  · rename_i op
    simp only [Option.some.injEq] at h; subst h
    refine ⟨by simp only [List.length_cons, List.length_nil]; decide, rfl, rfl, ?_⟩
    by_cases h : classI op = 5 ∨ classI op = 6 ∨ classI op = 7
    · have hin := class_in (op := op) (by omega)
      obtain ⟨k, rfl⟩ := Int.eq_ofNat_of_zero_le (by omega : 0 ≤ op)
      obtain ⟨e, z1, z2⟩ := sizeS_I k (by omega) h
      have g := nmL_get (k := k) (by omega)
      rw [← e]
      have i1 : (nm k).size ≤ 9223372036854775807 := by omega
      generalize nm k = s at *
      rcases h with h | h | h
      all_goals (try simp (config := { maxSteps := 10000000 }) only [go_sem, seval, s_rclass_eq, s_names_eq, s_ends_eq, nmL_len, g, i1, h]; repeat (simp (disch := omega) only [w64_d, ipos, ineg, dpos, dneg]; try simp (config := { maxSteps := 10000000 }) only [go_sem, seval, s_rclass_eq, s_names_eq, s_ends_eq, nmL_len, g, i1, h]))
      all_goals simp only [sizeS, if_true, show ¬ ((5 : Int) = 7) by decide, show ¬ ((6 : Int) = 7) by decide, if_false]
      repeat' (first
        | (refine cnd_by (fun h => ?_) (fun h => ?_) <;> (try simp only [decide_eq_true_eq, decide_eq_false_iff_not, Bool.not_eq_true', Bool.not_eq_false', Bool.not_eq_true, Bool.not_eq_false, Bool.and_eq_true, beq_iff_eq, beq_eq_false_iff_ne, ne_eq, Bool.or_eq_true] at h) <;> ((try simp (config := { maxSteps := 10000000 }) only [go_sem, seval, s_rclass_eq, s_names_eq, s_ends_eq, nmL_len, g, i1, h]; repeat (simp (disch := omega) only [w64_d, ipos, ineg, dpos, dneg]; try simp (config := { maxSteps := 10000000 }) only [go_sem, seval, s_rclass_eq, s_names_eq, s_ends_eq, nmL_len, g, i1, h]))))
        | (refine grd_by (fun h => ?_) (fun h => ?_) <;> (try simp only [decide_eq_true_eq, decide_eq_false_iff_not, Bool.not_eq_true', Bool.not_eq_false', Bool.not_eq_true, Bool.not_eq_false, Bool.and_eq_true, beq_iff_eq, beq_eq_false_iff_ne, ne_eq, Bool.or_eq_true] at h) <;> ((try simp (config := { maxSteps := 10000000 }) only [go_sem, seval, s_rclass_eq, s_names_eq, s_ends_eq, nmL_len, g, i1, h]; repeat (simp (disch := omega) only [w64_d, ipos, ineg, dpos, dneg]; try simp (config := { maxSteps := 10000000 }) only [go_sem, seval, s_rclass_eq, s_names_eq, s_ends_eq, nmL_len, g, i1, h]))))
        | (refine grdd_by (fun h => ?_) (fun h => ?_) <;> (try simp only [decide_eq_true_eq, decide_eq_false_iff_not, Bool.not_eq_true', Bool.not_eq_false', Bool.not_eq_true, Bool.not_eq_false, Bool.and_eq_true, beq_iff_eq, beq_eq_false_iff_ne, ne_eq, Bool.or_eq_true] at h) <;> ((try simp (config := { maxSteps := 10000000 }) only [go_sem, seval, s_rclass_eq, s_names_eq, s_ends_eq, nmL_len, g, i1, h]; repeat (simp (disch := omega) only [w64_d, ipos, ineg, dpos, dneg]; try simp (config := { maxSteps := 10000000 }) only [go_sem, seval, s_rclass_eq, s_names_eq, s_ends_eq, nmL_len, g, i1, h])))))
      all_goals simp only [*, if_true, if_false]
    · have h5 : ¬ classI op = 5 := fun e => h (.inl e)
      have h6 : ¬ classI op = 6 := fun e => h (.inr (.inl e))
      have h7 : ¬ classI op = 7 := fun e => h (.inr (.inr e))
      (try simp (config := { maxSteps := 10000000 }) only [go_sem, seval, s_rclass_eq, s_names_eq, s_ends_eq, h5, h6, h7, size_0 h]; repeat (simp (disch := omega) only [w64_d, ipos, ineg, dpos, dneg]; try simp (config := { maxSteps := 10000000 }) only [go_sem, seval, s_rclass_eq, s_names_eq, s_ends_eq, h5, h6, h7, size_0 h]))
  · simp at h

end
end Go.Proofs.YtflcjnekmjdckaaGreat
