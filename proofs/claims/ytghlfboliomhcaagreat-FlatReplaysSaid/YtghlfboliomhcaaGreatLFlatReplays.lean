/- The law FlatReplays: its function answers true for every input, and no argument is changed: the statement as it is given. No conditions. -/
import Derived.Test.YtghlfboliomhcaaGreatRows
import Derived.WalkKit
import Derived.ProofKit
import Derived.OpenShut
import Derived.Test.YtghlfboliomhcaaGreatRb2
import Derived.Test.YtghlfboliomhcaaGreatRb8
namespace Go.Proofs.YtghlfboliomhcaaGreat.flatReplays
open Go.ChangeShapes Go.WideShapes Go.ChangeAt Go.RowKit
set_option linter.unusedVariables false

theorem own : ownKnob Tryz.prog.godebug = none := by kernel_rfl

set_option maxRecDepth 100000 in
def avS : List Am.Ch := [.fl true [.n .i64, .n .i64, .n .i64, .n .i64], .sl [.n .i64, .n .i64, .n .u64, .n .u64, .n .i64, .n .i64, .n .i64, .n .u64, .n .u64, .q, .n .i64, .q, .q, .q, .n .u64, .n .i64, .n .i64, .n .u64, .n .i64, .n .u64], .fl false [.n .i64], .fl true [.n .u64, .q, .q, .q, .q, .n .u64, .n .i64, .q, .q, .q, .n .u64, .n .i64, .q, .q, .q, .n .u64, .n .i64, .q, .q, .q, .n .u64, .n .i64, .q, .q, .q, .n .u64, .n .i64, .q, .q, .q, .n .u64, .n .i64, .q, .q, .q, .n .u64, .n .i64, .q, .q, .q, .n .u64, .n .i64]]
set_option maxRecDepth 100000 in
theorem lifted (os : Os) (started : os.Started) (H : Type) (enc : TypeId × Value → H) :
    ReturnsInHanded {} Tryz.checked os 4 .any (Rows.flatReplaysSpec.pre6 enc Tryz.prog Tryz.f4 Rows.flatReplaysRow.domain false) (Rows.flatReplaysSpec.post enc Tryz.prog Tryz.f4 false true false false) := by
  refine returnsInHanded_of_change (C := Tryz.checked) own started (by kernel_rfl) Tryz.func4
    (ChangeSpec.witness6 (enc := enc) (C := Tryz.checked) false ⟨#[], #[.agg #[.int .i64 0, .int .i64 0, .int .i64 0, .int .i64 0], .slice none 0 0, .int .i64 0, .agg #[.int .u64 0, .bool false, .bool false, .bool false, .bool false, .int .u64 0, .int .i64 0, .bool false, .bool false, .bool false, .int .u64 0, .int .i64 0, .bool false, .bool false, .bool false, .int .u64 0, .int .i64 0, .bool false, .bool false, .bool false, .int .u64 0, .int .i64 0, .bool false, .bool false, .bool false, .int .u64 0, .int .i64 0, .bool false, .bool false, .bool false, .int .u64 0, .int .i64 0, .bool false, .bool false, .bool false, .int .u64 0, .int .i64 0, .bool false, .bool false, .bool false, .int .u64 0, .int .i64 0]], []⟩ 8 (by kernel_rfl) (by kernel_rfl) (by kernel_rfl) (by kernel_rfl)) ?_
  intro W base args ds gs before Uq hW _ _
  exact Am.apo (BO := avS) (sf := Jj) (tb := 4) as3 azL (by kernel_rfl) (by kernel_rfl) (by kernel_rfl) (by kernel_rfl) Tryz.underlying4 rfl
    (fun ds h => by match ds, h with | [_, _, _, _], _ => rfl) W base args ds gs before Uq hW

theorem avP : Rows.flatReplaysRow.holds Tryz.pinned (OpenSpec.ofChange Rows.flatReplaysSpec) :=
  OpenClaim.holds_of_wide 4 Tryz.f4 rfl rfl rfl rfl rfl rfl rfl ⟨rfl, rfl, rfl, rfl, rfl⟩ rfl rfl rfl rfl rfl (by kernel_rfl) Tryz.func4 (by kernel_rfl)
    (of_decide_eq_true (by kernel_rfl)) (by unfold Func.isWrapper; first | (rw [if_pos (by decide +kernel)]; kernel_rfl) | (rw [if_neg (by decide +kernel)]; exact ⟨rfl, rfl⟩))
    (fun os started H enc _ => lifted os started H enc)

theorem proved : Rows.FlatReplaysSaid :=
  avP
#print axioms proved
end Go.Proofs.YtghlfboliomhcaaGreat.flatReplays
