/- Layer 4: sizes, signs, what writes: contracts; the laws of names and classes. -/
import Derived.Test.YtflcjnekmjdckaaKn5
import Derived.Test.YtflcjnekmjdckaaKs
namespace Go.Proofs.Ytflcjnekmjdckaa
open Go.Am
set_option linter.unusedSimpArgs false
set_option linter.unusedVariables false
noncomputable section


theorem suf_h {a b : ByteArray} (h1 : b.size ≤ a.size) : (((a.size : Int) - (b.size : Int)).toNat) = a.size - b.size := by omega
def s_hassx (args : List AV) : Option AV :=
  match args with
  | [.c (.s a), .c (.s b)] => if a.size ≤ 9223372036854775807 ∧ b.size ≤ 9223372036854775807 then some (.c (.b (endsB a b))) else none
  | _ => none
theorem s_hassx_eq {a b} : s_hassx [.c (.s a), .c (.s b)] = if a.size ≤ 9223372036854775807 ∧ b.size ≤ 9223372036854775807 then some (.c (.b (endsB a b))) else none := rfl
set_option maxRecDepth 100000 in
set_option maxHeartbeats 2000000 in
theorem ok_hassx : PuOk Try.prog 89 s_hassx := by
  refine pu_ok (tab := []) hmix TabOk.nil Try.func89 rfl Try.results89 Try.ntmps89 (by kernel_rfl) (by kernel_rfl) ?_
  intro args v h
  unfold s_hassx at h
  split at h
  · rename_i a b
    split at h
    · rename_i hc
      simp only [Option.some.injEq] at h; subst h
      refine ⟨by simp only [List.length_cons, List.length_nil]; decide, rfl, rfl, ?_⟩
      by_cases h1 : b.size ≤ a.size
      · have e := suf_h h1
        have e2 : ((b.size : Int) ≤ (a.size : Int)) = True := eq_true (by omega)
        (try simp (config := { maxSteps := 10000000 }) only [go_sem, seval, endsB, h1, e, e2]; repeat (simp (disch := omega) only [w64_d, ipos, ineg, dpos, dneg]; try simp (config := { maxSteps := 10000000 }) only [go_sem, seval, endsB, h1, e, e2]))
      · have e2 : ((b.size : Int) ≤ (a.size : Int)) = False := eq_false (by omega)
        (try simp (config := { maxSteps := 10000000 }) only [go_sem, seval, endsB, h1, e2]; repeat (simp (disch := omega) only [w64_d, ipos, ineg, dpos, dneg]; try simp (config := { maxSteps := 10000000 }) only [go_sem, seval, endsB, h1, e2]))
    · simp at h
  · simp at h
def s_hassuf (args : List AV) : Option AV :=
  match args with
  | [.c (.s a), .c (.s b)] => if a.size ≤ 9223372036854775807 ∧ b.size ≤ 9223372036854775807 then some (.c (.b (endsB a b))) else none
  | _ => none
theorem s_hassuf_eq {a b} : s_hassuf [.c (.s a), .c (.s b)] = if a.size ≤ 9223372036854775807 ∧ b.size ≤ 9223372036854775807 then some (.c (.b (endsB a b))) else none := rfl
set_option maxRecDepth 100000 in
set_option maxHeartbeats 2000000 in
theorem ok_hassuf : PuOk Try.prog 78 s_hassuf := by
  refine pu_ok (tab := [(89, .pu s_hassx)]) hmix (TabOk.cons (e := .pu s_hassx) ok_hassx TabOk.nil) Try.func78 rfl Try.results78 Try.ntmps78 (by kernel_rfl) (by kernel_rfl) ?_
  intro args v h
  unfold s_hassuf at h
  split at h
  · rename_i a b
    split at h
    · rename_i hc
      simp only [Option.some.injEq] at h; subst h
      refine ⟨by simp only [List.length_cons, List.length_nil]; decide, rfl, rfl, ?_⟩
      (try simp (config := { maxSteps := 10000000 }) only [go_sem, seval, s_hassx_eq, hc]; repeat (simp (disch := omega) only [w64_d, ipos, ineg, dpos, dneg]; try simp (config := { maxSteps := 10000000 }) only [go_sem, seval, s_hassx_eq, hc]))
    · simp at h
  · simp at h
theorem sufd : ∀ k : Nat, k < 89 → 67 ≤ k → endsB (nm k) (⟨#[46, 100]⟩ : ByteArray) = decide (78 ≤ k) := by decide +kernel
theorem class_5 {op : Int} : (classI op = 5) = (11 ≤ op ∧ op ≤ 17) := by
  apply propext
  simp only [classI, wiB, Bool.and_eq_true, decide_eq_true_eq]
  repeat' split
  all_goals omega
theorem class_6 {op : Int} : (classI op = 6) = (18 ≤ op ∧ op ≤ 21) := by
  apply propext
  simp only [classI, wiB, Bool.and_eq_true, decide_eq_true_eq]
  repeat' split
  all_goals omega
theorem class_7' {op : Int} : (classI op = 7) = (67 ≤ op ∧ op ≤ 88) := by
  apply propext
  simp only [classI, wiB, Bool.and_eq_true, decide_eq_true_eq]
  repeat' split
  all_goals omega
def s_ksize (args : List AV) : Option AV :=
  match args with
  | [.c (.i op)] => some (.c (.i (sizeI op)))
  | _ => none
theorem s_ksize_eq {op} : s_ksize [.c (.i op)] = some (.c (.i (sizeI op))) := rfl
set_option maxRecDepth 100000 in
set_option maxHeartbeats 2000000 in
theorem ok_ksize : PuOk Try.prog 60 s_ksize := by
  refine pu_ok (tab := [(71, .pu s_class), (79, .pu s_kname), (78, .pu s_hassuf)]) hmix (TabOk.cons (e := .pu s_class) ok_class (TabOk.cons (e := .pu s_kname) ok_kname (TabOk.cons (e := .pu s_hassuf) ok_hassuf TabOk.nil))) Try.func60 rfl Try.results60 Try.ntmps60 (by kernel_rfl) (by kernel_rfl) ?_
  intro args v h
  unfold s_ksize at h
  split at h
  · rename_i op
    simp only [Option.some.injEq] at h; subst h
    refine ⟨by simp only [List.length_cons, List.length_nil]; decide, rfl, rfl, ?_⟩
    by_cases h5 : classI op = 5
    · have h := h5
      rw [class_5] at h
      have : op = 11 ∨ op = 12 ∨ op = 13 ∨ op = 14 ∨ op = 15 ∨ op = 16 ∨ op = 17 := by omega
      rcases this with rfl | rfl | rfl | rfl | rfl | rfl | rfl
      all_goals (try simp (config := { maxSteps := 10000000 }) only [go_sem, seval, s_class_eq, s_kname_eq, s_hassuf_eq, h5]; repeat (simp (disch := omega) only [w64_d, ipos, ineg, dpos, dneg]; try simp (config := { maxSteps := 10000000 }) only [go_sem, seval, s_class_eq, s_kname_eq, s_hassuf_eq, h5]))
      all_goals exact congrArg (fun n => some (AV.c (Sc.i n))) (by decide +kernel)
    by_cases h6 : classI op = 6
    · have h := h6
      rw [class_6] at h
      have : op = 18 ∨ op = 19 ∨ op = 20 ∨ op = 21 := by omega
      rcases this with rfl | rfl | rfl | rfl
      all_goals (try simp (config := { maxSteps := 10000000 }) only [go_sem, seval, s_class_eq, s_kname_eq, s_hassuf_eq, h6]; repeat (simp (disch := omega) only [w64_d, ipos, ineg, dpos, dneg]; try simp (config := { maxSteps := 10000000 }) only [go_sem, seval, s_class_eq, s_kname_eq, s_hassuf_eq, h6]))
      all_goals exact congrArg (fun n => some (AV.c (Sc.i n))) (by decide +kernel)
    by_cases h7 : classI op = 7
    · have h := h7
      rw [class_7'] at h
      obtain ⟨k, rfl⟩ := Int.eq_ofNat_of_zero_le (by omega : 0 ≤ op)
      have e1 : nameI (k : Int) = nm k := by unfold nameI; rw [if_pos (by omega)]; rfl
      have e2 := sufd k (by omega) (by omega)
      have i1 : (nm k).size ≤ 9223372036854775807 := nm_sizeB k
      have i2 : ByteArray.size ⟨#[46, 100]⟩ ≤ 9223372036854775807 := by decide
      by_cases h8 : 78 ≤ k
      · have e3 : sizeI (k : Int) = 8 := by unfold sizeI wiB; rw [if_neg (by simp; omega), if_pos (by simp; omega)]
        (try simp (config := { maxSteps := 10000000 }) only [go_sem, seval, s_class_eq, s_kname_eq, s_hassuf_eq, h7, e1, e2, i1, i2, h8, e3]; repeat (simp (disch := omega) only [w64_d, ipos, ineg, dpos, dneg]; try simp (config := { maxSteps := 10000000 }) only [go_sem, seval, s_class_eq, s_kname_eq, s_hassuf_eq, h7, e1, e2, i1, i2, h8, e3]))
      · have e3 : sizeI (k : Int) = 4 := by unfold sizeI wiB; rw [if_pos (by simp; omega)]
        (try simp (config := { maxSteps := 10000000 }) only [go_sem, seval, s_class_eq, s_kname_eq, s_hassuf_eq, h7, e1, e2, i1, i2, h8, e3]; repeat (simp (disch := omega) only [w64_d, ipos, ineg, dpos, dneg]; try simp (config := { maxSteps := 10000000 }) only [go_sem, seval, s_class_eq, s_kname_eq, s_hassuf_eq, h7, e1, e2, i1, i2, h8, e3]))
    · have e3 : sizeI op = 0 := size_0 (by omega)
      (try simp (config := { maxSteps := 10000000 }) only [go_sem, seval, s_class_eq, s_kname_eq, s_hassuf_eq, h5, h6, h7, e3]; repeat (simp (disch := omega) only [w64_d, ipos, ineg, dpos, dneg]; try simp (config := { maxSteps := 10000000 }) only [go_sem, seval, s_class_eq, s_kname_eq, s_hassuf_eq, h5, h6, h7, e3]))
  · simp at h
def signB (op : Int) : Bool := wiB op 11 14 || decide (classI op = 7)
theorem len5 : ∀ k : Nat, k < 99 → classI k = 5 → decide ((nm k).size = 2) = wiB k 11 14 := by decide +kernel
theorem wi_5 {op : Int} (h : ¬ classI op = 5) : wiB op 11 14 = false := by
  rw [class_5] at h
  unfold wiB
  simp; omega
def writB (op : Int) : Bool := decide (classI op = 1) || (decide (classI op = 2) || (decide (classI op = 3) || (decide (classI op = 5) || (decide (classI op = 7) || decide (classI op = 8)))))
def fenB : ByteArray := ⟨#[102, 101, 110, 99, 101, 46, 105]⟩
theorem live_k1 : findI fenB = 51 ∧ hasI fenB = true ∧ nameI 70 = ⟨#[97, 109, 111, 97, 100, 100, 46, 119]⟩ ∧ classI 17 = 5 := by decide +kernel

end
end Go.Proofs.Ytflcjnekmjdckaa
