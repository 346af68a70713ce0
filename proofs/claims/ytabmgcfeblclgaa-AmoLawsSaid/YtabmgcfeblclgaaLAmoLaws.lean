/- The law AmoLaws: its function answers true for every input, and no argument is changed: the statement as it is given. No conditions. -/
import Derived.Test.YtabmgcfeblclgaaRows
import Derived.WalkKit
import Derived.ProofKit
import Derived.OpenShut
import Derived.Test.YtabmgcfeblclgaaFr
import Derived.Test.YtabmgcfeblclgaaM2
namespace Go.Proofs.Ytabmgcfeblclgaa.amoLaws
open Go.ChangeShapes Go.WideShapes Go.ChangeAt Go.RowKit
set_option linter.unusedVariables false

theorem own : ownKnob Try.prog.godebug = none := by kernel_rfl

theorem sig (avs : List Am.AV) (H : Am.AH) (h : Am.SigA [.fl false [.n .i64], .fl false [.n .u64], .fl true [.n .u64, .n .u64]] avs H) : s_amoLaws avs = some (.c (.b true)) := by
  have h0 := h
  obtain ⟨s0, r0, rfl, k1, h1⟩ := Am.sig_c h0
  obtain ⟨x1, rfl, lo1, hi1⟩ := Am.fk_i k1
  obtain ⟨s1, r1, rfl, k2, h2⟩ := Am.sig_c h1
  obtain ⟨x2, rfl⟩ := Am.fk_u k2
  obtain ⟨l2, r2, rfl, g2_0, h3⟩ := Am.sig_g h2
  obtain ⟨s2_0, t2_0, rfl, k3, g2_1⟩ := Am.fit_cons g2_0
  obtain ⟨x3, rfl⟩ := Am.fk_u k3
  obtain ⟨s2_1, t2_1, rfl, k4, g2_2⟩ := Am.fit_cons g2_1
  obtain ⟨x4, rfl⟩ := Am.fk_u k4
  obtain rfl := Am.fit_nil g2_2
  obtain rfl := Am.sig_nil h3
  exact s_amoLaws_eq

set_option maxRecDepth 100000 in
theorem lifted (os : Os) (started : os.Started) (H : Type) (enc : TypeId × Value → H) :
    ReturnsInHanded {} Try.checked os 4 .any (Rows.amoLawsSpec.pre6 enc Try.prog Try.f4 Rows.amoLawsRow.domain false) (Rows.amoLawsSpec.post enc Try.prog Try.f4 false true false false) := by
  refine returnsInHanded_of_change (C := Try.checked) own started (by kernel_rfl) Try.func4
    (ChangeSpec.witness6 (enc := enc) (C := Try.checked) false ⟨#[], #[.int .i64 0, .int .u64 0, .agg #[.int .u64 0, .int .u64 0]], []⟩ 8 (by kernel_rfl) (by kernel_rfl) (by kernel_rfl) (by kernel_rfl)) ?_
  intro W base args ds gs before hval hW _ _
  exact Am.law_post (pars := [.fl false [.n .i64], .fl false [.n .u64], .fl true [.n .u64, .n .u64]]) (sf := fun a _ => s_amoLaws a) (tb := 4) ok_amoLaws.fq sig (by kernel_rfl) (by kernel_rfl) (by kernel_rfl) (by kernel_rfl) Try.underlying4 rfl
    (fun ds h => by match ds, h with | [_, _, _], _ => rfl) W base args ds gs before hval hW

theorem over : Rows.amoLawsRow.holds Try.pinned (OpenSpec.ofChange Rows.amoLawsSpec) :=
  OpenClaim.holds_of_wide 4 Try.f4 rfl rfl rfl rfl rfl rfl rfl ⟨rfl, rfl, rfl, rfl, rfl⟩ rfl rfl rfl rfl rfl (by kernel_rfl) Try.func4 (by kernel_rfl)
    (of_decide_eq_true (by kernel_rfl)) (by unfold Func.isWrapper; first | (rw [if_pos (by decide +kernel)]; kernel_rfl) | (rw [if_neg (by decide +kernel)]; exact ⟨rfl, rfl⟩))
    (fun os started H enc _ => lifted os started H enc)

/-- The statement. -/
theorem proved : Rows.AmoLawsSaid :=
  over
#print axioms proved
end Go.Proofs.Ytabmgcfeblclgaa.amoLaws
