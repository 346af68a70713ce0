/- The law AluFlows: its function answers true for every input, and no argument is changed: the statement as it is given. No conditions. -/
import Derived.Test.YtigjahhjkhfijaaRows
import Derived.WalkKit
import Derived.ProofKit
import Derived.OpenShut
import Derived.Test.YtigjahhjkhfijaaFr
import Derived.Test.YtigjahhjkhfijaaA3
namespace Go.Proofs.Ytigjahhjkhfijaa.aluFlows
open Go.ChangeShapes Go.WideShapes Go.ChangeAt Go.RowKit
set_option linter.unusedVariables false

theorem own : ownKnob Try.prog.godebug = none := by kernel_rfl

theorem sig (avs : List Am.AV) (H : Am.AH) (h : Am.SigA [.fl false [.n .i64], .fl true [.n .u64, .n .u64, .n .u64, .n .i64]] avs H) : s_aluFlows avs = some (.c (.b true)) := by
  have h0 := h
  obtain ⟨s0, r0, rfl, k1, h1⟩ := Am.sig_c h0
  obtain ⟨x1, rfl, lo1, hi1⟩ := Am.fk_i k1
  obtain ⟨l1, r1, rfl, g1_0, h2⟩ := Am.sig_g h1
  obtain ⟨s1_0, t1_0, rfl, k2, g1_1⟩ := Am.fit_cons g1_0
  obtain ⟨x2, rfl⟩ := Am.fk_u k2
  obtain ⟨s1_1, t1_1, rfl, k3, g1_2⟩ := Am.fit_cons g1_1
  obtain ⟨x3, rfl⟩ := Am.fk_u k3
  obtain ⟨s1_2, t1_2, rfl, k4, g1_3⟩ := Am.fit_cons g1_2
  obtain ⟨x4, rfl⟩ := Am.fk_u k4
  obtain ⟨s1_3, t1_3, rfl, k5, g1_4⟩ := Am.fit_cons g1_3
  obtain ⟨x5, rfl, lo5, hi5⟩ := Am.fk_i k5
  obtain rfl := Am.fit_nil g1_4
  obtain rfl := Am.sig_nil h2
  exact s_aluFlows_eq

set_option maxRecDepth 100000 in
theorem lifted (os : Os) (started : os.Started) (H : Type) (enc : TypeId × Value → H) :
    ReturnsInHanded {} Try.checked os 5 .any (Rows.aluFlowsSpec.pre6 enc Try.prog Try.f5 Rows.aluFlowsRow.domain false) (Rows.aluFlowsSpec.post enc Try.prog Try.f5 false true false false) := by
  refine returnsInHanded_of_change (C := Try.checked) own started (by kernel_rfl) Try.func5
    (ChangeSpec.witness6 (enc := enc) (C := Try.checked) false ⟨#[], #[.int .i64 0, .agg #[.int .u64 0, .int .u64 0, .int .u64 0, .int .i64 0]], []⟩ 8 (by kernel_rfl) (by kernel_rfl) (by kernel_rfl) (by kernel_rfl)) ?_
  intro W base args ds gs before hval hW _ _
  exact Am.law_post (pars := [.fl false [.n .i64], .fl true [.n .u64, .n .u64, .n .u64, .n .i64]]) (sf := fun a _ => s_aluFlows a) (tb := 4) ok_aluFlows.fq sig (by kernel_rfl) (by kernel_rfl) (by kernel_rfl) (by kernel_rfl) Try.underlying4 rfl
    (fun ds h => by match ds, h with | [_, _], _ => rfl) W base args ds gs before hval hW

theorem over : Rows.aluFlowsRow.holds Try.pinned (OpenSpec.ofChange Rows.aluFlowsSpec) :=
  OpenClaim.holds_of_wide 5 Try.f5 rfl rfl rfl rfl rfl rfl rfl ⟨rfl, rfl, rfl, rfl, rfl⟩ rfl rfl rfl rfl rfl (by kernel_rfl) Try.func5 (by kernel_rfl)
    (of_decide_eq_true (by kernel_rfl)) (by unfold Func.isWrapper; first | (rw [if_pos (by decide +kernel)]; kernel_rfl) | (rw [if_neg (by decide +kernel)]; exact ⟨rfl, rfl⟩))
    (fun os started H enc _ => lifted os started H enc)

/-- The statement. -/
theorem proved : Rows.AluFlowsSaid :=
  over
#print axioms proved
end Go.Proofs.Ytigjahhjkhfijaa.aluFlows
