/- Contracts of layer 2's reference: quotients; and of the examples that must be. -/
import Derived.Test.YtflcjnekmjdckaaWideB
namespace Go.Proofs.Ytflcjnekmjdckaa
open Go.Am
set_option linter.unusedSimpArgs false
set_option linter.unusedVariables false
noncomputable section

def refDivU (a b : BitVec 64) (pl : Bool) : BitVec 64 :=
  if b = 0#64 then 18446744073709551615#64 else
  if pl = true then ovQh 0#64 a b 64 64 else
  if belowU a = belowU b then ovQh 0#64 (amountU a) (amountU b) 64 64 else 0#64 - ovQh 0#64 (amountU a) (amountU b) 64 64
def refRemU (a b : BitVec 64) (pl : Bool) : BitVec 64 :=
  if b = 0#64 then a else
  if pl = true then ovR 0#64 a b 128 else
  if belowU a = true then 0#64 - ovR 0#64 (amountU a) (amountU b) 128 else ovR 0#64 (amountU a) (amountU b) 128

def s_refDiv (args : List AV) : Option AV :=
  match args with
  | [.c (.u a), .c (.u b), .c (.b pl)] => some (.c (.u (refDivU a b pl)))
  | _ => none
theorem s_refDiv_eq {a b pl} : s_refDiv [.c (.u a), .c (.u b), .c (.b pl)] = some (.c (.u (refDivU a b pl))) := rfl
set_option maxRecDepth 100000 in
set_option maxHeartbeats 2000000 in
theorem ok_refDiv : PuOk Try.prog 76 s_refDiv := by
  refine pu_ok (tab := [(87, .pu s_refOver), (88, .pu s_amount), (86, .pu s_below)]) hmix (TabOk.cons (e := .pu s_refOver) ok_refOver (TabOk.cons (e := .pu s_amount) ok_amount (TabOk.cons (e := .pu s_below) ok_below TabOk.nil))) Try.func76 rfl Try.results76 Try.ntmps76 (by kernel_rfl) (by kernel_rfl) ?_
  intro args v h
  unfold s_refDiv at h
  split at h
  · rename_i a b pl
    simp only [Option.some.injEq] at h; subst h
    refine ⟨by simp only [List.length_cons, List.length_nil]; decide, rfl, rfl, ?_⟩
    by_cases h1 : b = 0#64
    · simp (config := { maxSteps := 10000000 }) only [go_sem, seval, s_refOver_eq, s_amount_eq, s_below_eq, refDivU, h1]
    · cases pl
      · cases h2 : belowU a <;> cases h3 : belowU b <;> simp (config := { maxSteps := 10000000 }) only [go_sem, seval, s_refOver_eq, s_amount_eq, s_below_eq, refDivU, h1, h2, h3]
      · simp (config := { maxSteps := 10000000 }) only [go_sem, seval, s_refOver_eq, s_amount_eq, s_below_eq, refDivU, h1]
  · simp at h

def s_refRem (args : List AV) : Option AV :=
  match args with
  | [.c (.u a), .c (.u b), .c (.b pl)] => some (.c (.u (refRemU a b pl)))
  | _ => none
theorem s_refRem_eq {a b pl} : s_refRem [.c (.u a), .c (.u b), .c (.b pl)] = some (.c (.u (refRemU a b pl))) := rfl
set_option maxRecDepth 100000 in
set_option maxHeartbeats 2000000 in
theorem ok_refRem : PuOk Try.prog 77 s_refRem := by
  refine pu_ok (tab := [(87, .pu s_refOver), (88, .pu s_amount), (86, .pu s_below)]) hmix (TabOk.cons (e := .pu s_refOver) ok_refOver (TabOk.cons (e := .pu s_amount) ok_amount (TabOk.cons (e := .pu s_below) ok_below TabOk.nil))) Try.func77 rfl Try.results77 Try.ntmps77 (by kernel_rfl) (by kernel_rfl) ?_
  intro args v h
  unfold s_refRem at h
  split at h
  · rename_i a b pl
    simp only [Option.some.injEq] at h; subst h
    refine ⟨by simp only [List.length_cons, List.length_nil]; decide, rfl, rfl, ?_⟩
    by_cases h1 : b = 0#64
    · simp (config := { maxSteps := 10000000 }) only [go_sem, seval, s_refOver_eq, s_amount_eq, s_below_eq, refRemU, h1]
    · cases pl
      · by_cases h2 : belowU a = true
        · simp (config := { maxSteps := 10000000 }) only [go_sem, seval, s_refOver_eq, s_amount_eq, s_below_eq, refRemU, h1, h2]
        · have h2 : belowU a = false := by simpa using h2
          simp (config := { maxSteps := 10000000 }) only [go_sem, seval, s_refOver_eq, s_amount_eq, s_below_eq, refRemU, h1, h2]
      · simp (config := { maxSteps := 10000000 }) only [go_sem, seval, s_refOver_eq, s_amount_eq, s_below_eq, refRemU, h1]
  · simp at h

theorem live_times : timesHi 9223372036854775808#64 6#64 = 3#64 ∧ timesLo 9223372036854775808#64 6#64 = 0#64 ∧ timesHi 18446744073709551615#64 18446744073709551615#64 = 18446744073709551614#64 ∧ divS 18446744073709551609#64 2#64 = 18446744073709551613#64 := by decide

end
end Go.Proofs.Ytflcjnekmjdckaa
