/- Layer 4: the ops' names and classes: contracts. -/
import Derived.Test.YtanblagbkhpolaaTy
namespace Go.Proofs.Ytanblagbkhpolaa
open Go.Am
set_option linter.unusedSimpArgs false
set_option linter.unusedVariables false
noncomputable section

/-- all names, by their numbers -/
def nmB : List (List UInt8) := [
  [],
  [108, 117, 105],
  [97, 117, 105, 112, 99],
  [106, 97, 108],
  [106, 97, 108, 114],
  [98, 101, 113],
  [98, 110, 101],
  [98, 108, 116],
  [98, 103, 101],
  [98, 108, 116, 117],
  [98, 103, 101, 117],
  [108, 98],
  [108, 104],
  [108, 119],
  [108, 100],
  [108, 98, 117],
  [108, 104, 117],
  [108, 119, 117],
  [115, 98],
  [115, 104],
  [115, 119],
  [115, 100],
  [97, 100, 100, 105],
  [115, 108, 116, 105],
  [115, 108, 116, 105, 117],
  [120, 111, 114, 105],
  [111, 114, 105],
  [97, 110, 100, 105],
  [115, 108, 108, 105],
  [115, 114, 108, 105],
  [115, 114, 97, 105],
  [97, 100, 100],
  [115, 117, 98],
  [115, 108, 108],
  [115, 108, 116],
  [115, 108, 116, 117],
  [120, 111, 114],
  [115, 114, 108],
  [115, 114, 97],
  [111, 114],
  [97, 110, 100],
  [97, 100, 100, 105, 119],
  [115, 108, 108, 105, 119],
  [115, 114, 108, 105, 119],
  [115, 114, 97, 105, 119],
  [97, 100, 100, 119],
  [115, 117, 98, 119],
  [115, 108, 108, 119],
  [115, 114, 108, 119],
  [115, 114, 97, 119],
  [102, 101, 110, 99, 101],
  [102, 101, 110, 99, 101, 46, 105],
  [101, 99, 97, 108, 108],
  [101, 98, 114, 101, 97, 107],
  [109, 117, 108],
  [109, 117, 108, 104],
  [109, 117, 108, 104, 115, 117],
  [109, 117, 108, 104, 117],
  [100, 105, 118],
  [100, 105, 118, 117],
  [114, 101, 109],
  [114, 101, 109, 117],
  [109, 117, 108, 119],
  [100, 105, 118, 119],
  [100, 105, 118, 117, 119],
  [114, 101, 109, 119],
  [114, 101, 109, 117, 119],
  [108, 114, 46, 119],
  [115, 99, 46, 119],
  [97, 109, 111, 115, 119, 97, 112, 46, 119],
  [97, 109, 111, 97, 100, 100, 46, 119],
  [97, 109, 111, 120, 111, 114, 46, 119],
  [97, 109, 111, 97, 110, 100, 46, 119],
  [97, 109, 111, 111, 114, 46, 119],
  [97, 109, 111, 109, 105, 110, 46, 119],
  [97, 109, 111, 109, 97, 120, 46, 119],
  [97, 109, 111, 109, 105, 110, 117, 46, 119],
  [97, 109, 111, 109, 97, 120, 117, 46, 119],
  [108, 114, 46, 100],
  [115, 99, 46, 100],
  [97, 109, 111, 115, 119, 97, 112, 46, 100],
  [97, 109, 111, 97, 100, 100, 46, 100],
  [97, 109, 111, 120, 111, 114, 46, 100],
  [97, 109, 111, 97, 110, 100, 46, 100],
  [97, 109, 111, 111, 114, 46, 100],
  [97, 109, 111, 109, 105, 110, 46, 100],
  [97, 109, 111, 109, 97, 120, 46, 100],
  [97, 109, 111, 109, 105, 110, 117, 46, 100],
  [97, 109, 111, 109, 97, 120, 117, 46, 100],
  [99, 115, 114, 114, 119],
  [99, 115, 114, 114, 115],
  [99, 115, 114, 114, 99],
  [99, 115, 114, 114, 119, 105],
  [99, 115, 114, 114, 115, 105],
  [99, 115, 114, 114, 99, 105],
  [109, 114, 101, 116],
  [115, 114, 101, 116],
  [119, 102, 105],
  [115, 102, 101, 110, 99, 101, 46, 118, 109, 97]]
def nm (k : Nat) : ByteArray := ⟨(nmB.getD k []).toArray⟩
def nmL : List Sc := nmB.map fun l => .s ⟨l.toArray⟩
theorem nmB_len : nmB.length = 99 := rfl
theorem nmL_len : nmL.length = 99 := rfl
theorem nmL_get {k : Nat} (h : k < 99) : nmL.getD k .any = .s (nm k) := by
  unfold nmL nm
  rw [List.getD_eq_getElem?_getD, List.getElem?_map, List.getD_eq_getElem?_getD, List.getElem?_eq_getElem (by rw [nmB_len]; exact h)]
  rfl
def wiB (op a b : Int) : Bool := decide (a ≤ op) && decide (op ≤ b)
def s_within (args : List AV) : Option AV :=
  match args with
  | [.c (.i op), .c (.i a), .c (.i b)] => some (.c (.b (wiB op a b)))
  | _ => none
theorem s_within_eq {op a b} : s_within [.c (.i op), .c (.i a), .c (.i b)] = some (.c (.b (wiB op a b))) := rfl
set_option maxRecDepth 100000 in
set_option maxHeartbeats 2000000 in
theorem ok_within : PuOk Try.prog 100 s_within := by
  refine pu_ok (tab := []) hmix TabOk.nil Try.func100 rfl Try.results100 Try.ntmps100 (by kernel_rfl) (by kernel_rfl) ?_
  intro args v h
  unfold s_within at h
  split at h
  · rename_i op a b
    simp only [Option.some.injEq] at h; subst h
    refine ⟨by simp only [List.length_cons, List.length_nil]; decide, rfl, rfl, ?_⟩
    by_cases h1 : a ≤ op
    all_goals (try simp (config := { maxSteps := 10000000 }) only [go_sem, seval, wiB, h1]; repeat (simp (disch := omega) only [w64_d, ipos, ineg, dpos, dneg]; try simp (config := { maxSteps := 10000000 }) only [go_sem, seval, wiB, h1]))
  · simp at h
def classI (op : Int) : Int :=
  if wiB op 1 2 = true then 2 else if wiB op 3 4 = true then 3 else if wiB op 5 10 = true then 4 else if wiB op 11 17 = true then 5 else if wiB op 18 21 = true then 6 else
  if wiB op 22 49 = true then 1 else if wiB op 54 66 = true then 1 else if wiB op 50 51 = true then 9 else if wiB op 67 88 = true then 7 else if wiB op 89 94 = true then 8 else if wiB op 52 53 = true then 10 else if wiB op 95 98 = true then 10 else 0
def s_class (args : List AV) : Option AV :=
  match args with
  | [.c (.i op)] => some (.c (.i (classI op)))
  | _ => none
theorem s_class_eq {op} : s_class [.c (.i op)] = some (.c (.i (classI op))) := rfl
set_option maxRecDepth 100000 in
set_option maxHeartbeats 2000000 in
theorem ok_class : PuOk Try.prog 94 s_class := by
  refine pu_ok (tab := [(100, .pu s_within)]) hmix (TabOk.cons (e := .pu s_within) ok_within TabOk.nil) Try.func94 rfl Try.results94 Try.ntmps94 (by kernel_rfl) (by kernel_rfl) ?_
  intro args v h
  unfold s_class at h
  split at h
  · rename_i op
    simp only [Option.some.injEq] at h; subst h
    refine ⟨by simp only [List.length_cons, List.length_nil]; decide, rfl, rfl, ?_⟩
    (try simp (config := { maxSteps := 10000000 }) only [go_sem, seval, s_within_eq]; repeat (simp (disch := omega) only [w64_d, ipos, ineg, dpos, dneg]; try simp (config := { maxSteps := 10000000 }) only [go_sem, seval, s_within_eq]))
    repeat' (first
      | (refine cnd_by (fun h => ?_) (fun h => ?_) <;> (try simp only [decide_eq_true_eq, decide_eq_false_iff_not, Bool.not_eq_true', Bool.not_eq_false', Bool.not_eq_true, Bool.not_eq_false, Bool.and_eq_true, beq_iff_eq, beq_eq_false_iff_ne, ne_eq, Bool.or_eq_true] at h) <;> ((try simp (config := { maxSteps := 10000000 }) only [go_sem, seval, s_within_eq, h]; repeat (simp (disch := omega) only [w64_d, ipos, ineg, dpos, dneg]; try simp (config := { maxSteps := 10000000 }) only [go_sem, seval, s_within_eq, h]))))
      | (refine grd_by (fun h => ?_) (fun h => ?_) <;> (try simp only [decide_eq_true_eq, decide_eq_false_iff_not, Bool.not_eq_true', Bool.not_eq_false', Bool.not_eq_true, Bool.not_eq_false, Bool.and_eq_true, beq_iff_eq, beq_eq_false_iff_ne, ne_eq, Bool.or_eq_true] at h) <;> ((try simp (config := { maxSteps := 10000000 }) only [go_sem, seval, s_within_eq, h]; repeat (simp (disch := omega) only [w64_d, ipos, ineg, dpos, dneg]; try simp (config := { maxSteps := 10000000 }) only [go_sem, seval, s_within_eq, h]))))
      | (refine grdd_by (fun h => ?_) (fun h => ?_) <;> (try simp only [decide_eq_true_eq, decide_eq_false_iff_not, Bool.not_eq_true', Bool.not_eq_false', Bool.not_eq_true, Bool.not_eq_false, Bool.and_eq_true, beq_iff_eq, beq_eq_false_iff_ne, ne_eq, Bool.or_eq_true] at h) <;> ((try simp (config := { maxSteps := 10000000 }) only [go_sem, seval, s_within_eq, h]; repeat (simp (disch := omega) only [w64_d, ipos, ineg, dpos, dneg]; try simp (config := { maxSteps := 10000000 }) only [go_sem, seval, s_within_eq, h])))))
    all_goals simp only [classI, *, if_true, if_false, Bool.false_eq_true]
  · simp at h
def s_names (args : List AV) (H : AH) : Option (AV × AH) :=
  match args with
  | [] => some (.c (.sl H.length 0 99 99), H ++ [.vec 1 nmL])
  | _ => none
theorem s_names_eq {H : AH} : s_names [] H = some (.c (.sl H.length 0 99 99), H ++ [.vec 1 nmL]) := rfl
theorem len_names (args : List AV) (H : AH) (v : AV) (H1 : AH) (h : s_names args H = some (v, H1)) : H.length ≤ H1.length := by
  unfold s_names at h
  split at h
  · simp only [Option.some.injEq, Prod.mk.injEq] at h; rw [← h.2]; simp
  · simp at h
theorem nmL_bel (n : Nat) : nmL.all (Sc.bel n) = true := by simp [nmL, nmB, Sc.bel]
def endsB (a b : ByteArray) : Bool := decide (b.size ≤ a.size) && decide (a.extract (a.size - b.size) a.size = b)
def classS (s : ByteArray) (op : Int) : Int :=
  if s = (⟨#[108, 117, 105]⟩ : ByteArray) then 2 else
  if s = (⟨#[97, 117, 105, 112, 99]⟩ : ByteArray) then 2 else
  if s = (⟨#[106, 97, 108]⟩ : ByteArray) then 3 else
  if s = (⟨#[106, 97, 108, 114]⟩ : ByteArray) then 3 else
  if op < 11 then 4 else
  if s = (⟨#[102, 101, 110, 99, 101]⟩ : ByteArray) then 9 else
  if s = (⟨#[102, 101, 110, 99, 101, 46, 105]⟩ : ByteArray) then 9 else
  if s = (⟨#[101, 99, 97, 108, 108]⟩ : ByteArray) then 10 else
  if s = (⟨#[101, 98, 114, 101, 97, 107]⟩ : ByteArray) then 10 else
  if s = (⟨#[109, 114, 101, 116]⟩ : ByteArray) then 10 else
  if s = (⟨#[115, 114, 101, 116]⟩ : ByteArray) then 10 else
  if s = (⟨#[119, 102, 105]⟩ : ByteArray) then 10 else
  if s = (⟨#[115, 102, 101, 110, 99, 101, 46, 118, 109, 97]⟩ : ByteArray) then 10 else
  if endsB s (⟨#[46, 119]⟩ : ByteArray) = true then 7 else if endsB s (⟨#[46, 100]⟩ : ByteArray) = true then 7 else
  if 3 < (s.size : Int) ∧ s.extract 0 3 = (⟨#[99, 115, 114]⟩ : ByteArray) then 8 else
  if (s.size : Int) ≤ 3 ∧ ((s.data.getD 0 0).toNat : Int) = 108 then 5 else
  if s = (⟨#[115, 98]⟩ : ByteArray) then 6 else
  if s = (⟨#[115, 104]⟩ : ByteArray) then 6 else
  if s = (⟨#[115, 119]⟩ : ByteArray) then 6 else
  if s = (⟨#[115, 100]⟩ : ByteArray) then 6 else 1
theorem classS_I : ∀ k, k < 99 → 1 ≤ k → classS (nm k) k = classI k := by decide +kernel
theorem nm_size : ∀ k, k < 99 → 1 ≤ k → 1 ≤ (nm k).size ∧ (nm k).size ≤ 100 := by decide +kernel
theorem class_out {op : Int} (h : op < 1 ∨ 98 < op) : classI op = 0 := by
  simp only [classI, wiB, Bool.and_eq_true, decide_eq_true_eq]
  repeat rw [if_neg (by omega)]

end
end Go.Proofs.Ytanblagbkhpolaa
