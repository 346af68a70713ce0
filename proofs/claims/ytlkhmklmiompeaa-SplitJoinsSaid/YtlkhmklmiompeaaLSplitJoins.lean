/- The law SplitJoins: its function answers true for every input, and no argument is changed: the statement as it is given. No conditions. -/
import Derived.Test.YtlkhmklmiompeaaRows
import Derived.WalkKit
import Derived.ProofKit
import Derived.OpenShut
import Derived.Test.YtlkhmklmiompeaaFr
import Derived.Test.YtlkhmklmiompeaaS4
namespace Go.Proofs.Ytlkhmklmiompeaa.splitJoins
open Go.ChangeShapes Go.WideShapes Go.ChangeAt Go.RowKit
set_option linter.unusedVariables false

theorem own : ownKnob Try.prog.godebug = none := by kernel_rfl

set_option maxRecDepth 100000 in
theorem lifted (os : Os) (started : os.Started) (H : Type) (enc : TypeId × Value → H) :
    ReturnsInHanded {} Try.checked os 4 .any (Rows.splitJoinsSpec.pre6 enc Try.prog Try.f4 Rows.splitJoinsRow.domain false) (Rows.splitJoinsSpec.post enc Try.prog Try.f4 false true false false) := by
  refine returnsInHanded_of_change (C := Try.checked) own started (by kernel_rfl) Try.func4
    (ChangeSpec.witness6 (enc := enc) (C := Try.checked) false ⟨#[], #[.int .u64 0, .slice none 0 0, .slice none 0 0], []⟩ 8 (by kernel_rfl) (by kernel_rfl) (by kernel_rfl) (by kernel_rfl)) ?_
  intro W base args ds gs before hval hW _ _
  exact Am.law_post (pars := [.fl false [.n .u64], .sl [.n .u64, .n .i64, .n .i64], .sl [.n .u64]]) (sf := s_sjoins) (tb := 4) ok_sjoins sig_sjoins (by kernel_rfl) (by kernel_rfl) (by kernel_rfl) (by kernel_rfl) Try.underlying4 rfl
    (fun ds h => by match ds, h with | [_, _, _], _ => rfl) W base args ds gs before hval hW

theorem over : Rows.splitJoinsRow.holds Try.pinned (OpenSpec.ofChange Rows.splitJoinsSpec) :=
  OpenClaim.holds_of_wide 4 Try.f4 rfl rfl rfl rfl rfl rfl rfl ⟨rfl, rfl, rfl, rfl, rfl⟩ rfl rfl rfl rfl rfl (by kernel_rfl) Try.func4 (by kernel_rfl)
    (of_decide_eq_true (by kernel_rfl)) (by unfold Func.isWrapper; first | (rw [if_pos (by decide +kernel)]; kernel_rfl) | (rw [if_neg (by decide +kernel)]; exact ⟨rfl, rfl⟩))
    (fun os started H enc _ => lifted os started H enc)

/-- The statement. -/
theorem proved : Rows.SplitJoinsSaid :=
  over
#print axioms proved
end Go.Proofs.Ytlkhmklmiompeaa.splitJoins
