/- The law FlatPlays: its function answers true for every input, and no argument is changed: the statement as it is given. No conditions. -/
import Derived.Test.YtghlfboliomhcaaGreatRows
import Derived.WalkKit
import Derived.ProofKit
import Derived.OpenShut
import Derived.Test.YtghlfboliomhcaaGreatPb2
import Derived.Test.YtghlfboliomhcaaGreatPb7
namespace Go.Proofs.YtghlfboliomhcaaGreat.flatPlays
open Go.ChangeShapes Go.WideShapes Go.ChangeAt Go.RowKit
set_option linter.unusedVariables false

theorem own : ownKnob Tryz.prog.godebug = none := by kernel_rfl

set_option maxRecDepth 100000 in
def aug : List Am.zV := [.fl true [.n .i64, .n .i64, .n .i64, .n .i64], .sl [.n .i64, .n .i64, .n .u64, .n .u64, .n .i64, .n .i64, .n .i64, .n .u64, .n .u64, .q, .n .i64, .q, .q, .q, .n .u64, .n .i64, .n .i64, .n .u64, .n .i64, .n .u64], .fl true [.n .i64, .n .i64, .n .u64, .n .u64, .n .i64, .n .i64, .n .i64, .n .u64, .n .u64, .q, .n .i64, .q, .q, .q, .n .u64, .n .i64, .n .i64, .n .u64, .n .i64, .n .u64]]
set_option maxRecDepth 100000 in
theorem lifted (os : Os) (started : os.Started) (H : Type) (enc : TypeId × Value → H) :
    ReturnsInHanded {} Tryz.checked os 3 .any (Rows.flatPlaysSpec.pre6 enc Tryz.prog Tryz.f3 Rows.flatPlaysRow.domain false) (Rows.flatPlaysSpec.post enc Tryz.prog Tryz.f3 false true false false) := by
  refine returnsInHanded_of_change (C := Tryz.checked) own started (by kernel_rfl) Tryz.func3
    (ChangeSpec.witness6 (enc := enc) (C := Tryz.checked) false ⟨#[], #[.agg #[.int .i64 0, .int .i64 0, .int .i64 0, .int .i64 0], .slice none 0 0, .agg #[.int .i64 0, .int .i64 0, .int .u64 0, .int .u64 0, .int .i64 0, .int .i64 0, .int .i64 0, .int .u64 0, .int .u64 0, .bool false, .int .i64 0, .bool false, .bool false, .bool false, .int .u64 0, .int .i64 0, .int .i64 0, .int .u64 0, .int .i64 0, .int .u64 0]], []⟩ 8 (by kernel_rfl) (by kernel_rfl) (by kernel_rfl) (by kernel_rfl)) ?_
  intro W base args ds gs before Tl hW _ _
  exact Am.anP (A4 := aug) (sf := Iq) (tb := 4) ars ax9 (by kernel_rfl) (by kernel_rfl) (by kernel_rfl) (by kernel_rfl) Tryz.underlying4 rfl
    (fun ds h => by match ds, h with | [_, _, _], _ => rfl) W base args ds gs before Tl hW

theorem aud : Rows.flatPlaysRow.holds Tryz.pinned (OpenSpec.ofChange Rows.flatPlaysSpec) :=
  OpenClaim.holds_of_wide 3 Tryz.f3 rfl rfl rfl rfl rfl rfl rfl ⟨rfl, rfl, rfl, rfl, rfl⟩ rfl rfl rfl rfl rfl (by kernel_rfl) Tryz.func3 (by kernel_rfl)
    (of_decide_eq_true (by kernel_rfl)) (by unfold Func.isWrapper; first | (rw [if_pos (by decide +kernel)]; kernel_rfl) | (rw [if_neg (by decide +kernel)]; exact ⟨rfl, rfl⟩))
    (fun os started H enc _ => lifted os started H enc)

theorem proved : Rows.FlatPlaysSaid :=
  aud
#print axioms proved
end Go.Proofs.YtghlfboliomhcaaGreat.flatPlays
