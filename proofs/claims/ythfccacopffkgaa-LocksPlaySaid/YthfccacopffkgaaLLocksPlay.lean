/- The law LocksPlay: its function answers true for every input, and no argument is changed: the statement as it is given. No conditions. -/
import Derived.Test.YthfccacopffkgaaRows
import Derived.WalkKit
import Derived.ProofKit
import Derived.OpenShut
import Derived.Test.YthfccacopffkgaaFr
import Derived.Test.YthfccacopffkgaaLkM
namespace Go.Proofs.Ythfccacopffkgaa.locksPlay
open Go.ChangeShapes Go.WideShapes Go.ChangeAt Go.RowKit
set_option linter.unusedVariables false

theorem own : ownKnob Try.prog.godebug = none := by kernel_rfl

set_option maxRecDepth 100000 in
def pars0 : List Am.Par := [.fl false [.n .i64], .sl [.q, .n .i64, .n .i64], .fl true [.q, .n .i64, .n .i64]]
set_option maxRecDepth 100000 in
theorem lifted (os : Os) (started : os.Started) (H : Type) (enc : TypeId × Value → H) :
    ReturnsInHanded {} Try.checked os 4 .any (Rows.locksPlaySpec.pre6 enc Try.prog Try.f4 Rows.locksPlayRow.domain false) (Rows.locksPlaySpec.post enc Try.prog Try.f4 false true false false) := by
  refine returnsInHanded_of_change (C := Try.checked) own started (by kernel_rfl) Try.func4
    (ChangeSpec.witness6 (enc := enc) (C := Try.checked) false ⟨#[], #[.int .i64 0, .slice none 0 0, .agg #[.bool false, .int .i64 0, .int .i64 0]], []⟩ 8 (by kernel_rfl) (by kernel_rfl) (by kernel_rfl) (by kernel_rfl)) ?_
  intro W base args ds gs before hval hW _ _
  exact Am.law_post (pars := pars0) (sf := s_lplay) (tb := 4) ok_lplay sig_lplay (by kernel_rfl) (by kernel_rfl) (by kernel_rfl) (by kernel_rfl) Try.underlying4 rfl
    (fun ds h => by match ds, h with | [_, _, _], _ => rfl) W base args ds gs before hval hW

theorem over : Rows.locksPlayRow.holds Try.pinned (OpenSpec.ofChange Rows.locksPlaySpec) :=
  OpenClaim.holds_of_wide 4 Try.f4 rfl rfl rfl rfl rfl rfl rfl ⟨rfl, rfl, rfl, rfl, rfl⟩ rfl rfl rfl rfl rfl (by kernel_rfl) Try.func4 (by kernel_rfl)
    (of_decide_eq_true (by kernel_rfl)) (by unfold Func.isWrapper; first | (rw [if_pos (by decide +kernel)]; kernel_rfl) | (rw [if_neg (by decide +kernel)]; exact ⟨rfl, rfl⟩))
    (fun os started H enc _ => lifted os started H enc)

/-- The statement. -/
theorem proved : Rows.LocksPlaySaid :=
  over
#print axioms proved
end Go.Proofs.Ythfccacopffkgaa.locksPlay
