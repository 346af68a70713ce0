/- Layer 14: which asks lay a number: contracts. -/
import Derived.Test.YtflcjnekmjdckaaE1
namespace Go.Proofs.Ytflcjnekmjdckaa
open Go.Am
set_option linter.unusedSimpArgs false
set_option linter.unusedVariables false
noncomputable section

def wrB (k : Int) (g : Bool) : Bool := if k = 3 then true else if k = 4 then true else if k = 6 then g else if k = 8 then g else false
def isQ (a : List Sc) : Prop := a.length = 19 ∧ a.all Sc.pf = true ∧ a.getD 0 .any = .i (gi a 0)
def isN (b : List Sc) : Prop := b.length = 42 ∧ b.all Sc.pf = true ∧ b.getD 1 .any = .b (gb b 1)
instance (l : List Sc) : Decidable (isQ l) := Classical.propDecidable _
instance (l : List Sc) : Decidable (isN l) := Classical.propDecidable _
def s_rwrites14 (args : List AV) : Option AV :=
  match args with
  | [.g a, .g b] => if isQ a ∧ isN b then some (.c (.b (wrB (gi a 0) (gb b 1)))) else none
  | _ => none
theorem s_rwrites14_eq {a b} : s_rwrites14 [.g a, .g b] = if isQ a ∧ isN b then some (.c (.b (wrB (gi a 0) (gb b 1)))) else none := rfl
set_option maxRecDepth 100000 in
set_option maxHeartbeats 2000000 in
theorem ok_rwrites14 : PuOk Try.prog 27 s_rwrites14 := by
  refine pu_ok (tab := []) hmix TabOk.nil Try.func27 rfl Try.results27 Try.ntmps27 (by kernel_rfl) (by kernel_rfl) ?_
  intro args v h
  unfold s_rwrites14 at h
  split at h
  · rename_i a b
    split at h
    · rename_i hc
      simp only [Option.some.injEq] at h; subst h
      obtain ⟨⟨la, pa, fa⟩, lb, pb, fb⟩ := hc
      refine ⟨by simp only [List.length_cons, List.length_nil]; decide, by first | rfl | simp only [List.all_cons, List.all_nil, AV.pf, Sc.pf, Bool.and_true, *], by first | rfl | simp only [List.all_cons, List.all_nil, AV.pf, Sc.pf, Bool.and_true, *], ?_⟩
      generalize gi a 0 = k at *
      generalize gb b 1 = g at *
      by_cases h3 : k = 3
      · subst h3; (try simp (config := { maxSteps := 10000000 }) only [go_sem, seval, la, lb, fa, fb, wrB]; repeat (simp (disch := omega) only [w64_d, ipos, ineg, dpos, dneg]; try simp (config := { maxSteps := 10000000 }) only [go_sem, seval, la, lb, fa, fb, wrB]))
      by_cases h4 : k = 4
      · subst h4; (try simp (config := { maxSteps := 10000000 }) only [go_sem, seval, la, lb, fa, fb, wrB]; repeat (simp (disch := omega) only [w64_d, ipos, ineg, dpos, dneg]; try simp (config := { maxSteps := 10000000 }) only [go_sem, seval, la, lb, fa, fb, wrB]))
      cases g
      · (try simp (config := { maxSteps := 10000000 }) only [go_sem, seval, la, lb, fa, fb, h3, h4, wrB]; repeat (simp (disch := omega) only [w64_d, ipos, ineg, dpos, dneg]; try simp (config := { maxSteps := 10000000 }) only [go_sem, seval, la, lb, fa, fb, h3, h4, wrB]))
        all_goals simp
      by_cases h6 : k = 6
      · subst h6; (try simp (config := { maxSteps := 10000000 }) only [go_sem, seval, la, lb, fa, fb, wrB]; repeat (simp (disch := omega) only [w64_d, ipos, ineg, dpos, dneg]; try simp (config := { maxSteps := 10000000 }) only [go_sem, seval, la, lb, fa, fb, wrB]))
      by_cases h8 : k = 8
      · subst h8; (try simp (config := { maxSteps := 10000000 }) only [go_sem, seval, la, lb, fa, fb, wrB]; repeat (simp (disch := omega) only [w64_d, ipos, ineg, dpos, dneg]; try simp (config := { maxSteps := 10000000 }) only [go_sem, seval, la, lb, fa, fb, wrB]))
      · (try simp (config := { maxSteps := 10000000 }) only [go_sem, seval, la, lb, fa, fb, h3, h4, h6, h8, wrB]; repeat (simp (disch := omega) only [w64_d, ipos, ineg, dpos, dneg]; try simp (config := { maxSteps := 10000000 }) only [go_sem, seval, la, lb, fa, fb, h3, h4, h6, h8, wrB]))
    · simp at h
  · simp at h
end
end Go.Proofs.Ytflcjnekmjdckaa
