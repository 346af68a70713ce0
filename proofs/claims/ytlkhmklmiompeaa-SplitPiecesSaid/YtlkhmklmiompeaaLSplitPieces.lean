/- The law SplitPieces: its function answers true for every input, and no argument is changed: the statement as it is given. No conditions. -/
import Derived.Test.YtlkhmklmiompeaaRows
import Derived.WalkKit
import Derived.ProofKit
import Derived.OpenShut
import Derived.Test.YtlkhmklmiompeaaFr
import Derived.Test.YtlkhmklmiompeaaS7
namespace Go.Proofs.Ytlkhmklmiompeaa.splitPieces
open Go.ChangeShapes Go.WideShapes Go.ChangeAt Go.RowKit
set_option linter.unusedVariables false

theorem own : ownKnob Try.prog.godebug = none := by kernel_rfl

theorem sig (avs : List Am.AV) (H : Am.AH) (h : Am.SigA [.fl true [.n .u64, .n .u64, .n .i64, .n .i64], .fl false [.n .i64]] avs H) : s_spieces avs = some (.c (.b true)) := by
  have h0 := h
  obtain ⟨l0, r0, rfl, g0_0, h1⟩ := Am.sig_g h0
  obtain ⟨s0_0, t0_0, rfl, k1, g0_1⟩ := Am.fit_cons g0_0
  obtain ⟨x1, rfl⟩ := Am.fk_u k1
  obtain ⟨s0_1, t0_1, rfl, k2, g0_2⟩ := Am.fit_cons g0_1
  obtain ⟨x2, rfl⟩ := Am.fk_u k2
  obtain ⟨s0_2, t0_2, rfl, k3, g0_3⟩ := Am.fit_cons g0_2
  obtain ⟨x3, rfl, lo3, hi3⟩ := Am.fk_i k3
  obtain ⟨s0_3, t0_3, rfl, k4, g0_4⟩ := Am.fit_cons g0_3
  obtain ⟨x4, rfl, lo4, hi4⟩ := Am.fk_i k4
  obtain rfl := Am.fit_nil g0_4
  obtain ⟨s1, r1, rfl, k5, h2⟩ := Am.sig_c h1
  obtain ⟨x5, rfl, lo5, hi5⟩ := Am.fk_i k5
  obtain rfl := Am.sig_nil h2
  rw [s_spieces_eq, if_pos ⟨⟨lo3, hi3⟩, ⟨lo4, hi4⟩, ⟨lo5, hi5⟩⟩]

set_option maxRecDepth 100000 in
def pars0 : List Am.Par := [.fl true [.n .u64, .n .u64, .n .i64, .n .i64], .fl false [.n .i64]]
set_option maxRecDepth 100000 in
theorem lifted (os : Os) (started : os.Started) (H : Type) (enc : TypeId × Value → H) :
    ReturnsInHanded {} Try.checked os 6 .any (Rows.splitPiecesSpec.pre6 enc Try.prog Try.f6 Rows.splitPiecesRow.domain false) (Rows.splitPiecesSpec.post enc Try.prog Try.f6 false true false false) := by
  refine returnsInHanded_of_change (C := Try.checked) own started (by kernel_rfl) Try.func6
    (ChangeSpec.witness6 (enc := enc) (C := Try.checked) false ⟨#[], #[.agg #[.int .u64 0, .int .u64 0, .int .i64 0, .int .i64 0], .int .i64 0], []⟩ 8 (by kernel_rfl) (by kernel_rfl) (by kernel_rfl) (by kernel_rfl)) ?_
  intro W base args ds gs before hval hW _ _
  exact Am.law_post (pars := pars0) (sf := fun a _ => s_spieces a) (tb := 4) ok_spieces.fq sig (by kernel_rfl) (by kernel_rfl) (by kernel_rfl) (by kernel_rfl) Try.underlying4 rfl
    (fun ds h => by match ds, h with | [_, _], _ => rfl) W base args ds gs before hval hW

theorem over : Rows.splitPiecesRow.holds Try.pinned (OpenSpec.ofChange Rows.splitPiecesSpec) :=
  OpenClaim.holds_of_wide 6 Try.f6 rfl rfl rfl rfl rfl rfl rfl ⟨rfl, rfl, rfl, rfl, rfl⟩ rfl rfl rfl rfl rfl (by kernel_rfl) Try.func6 (by kernel_rfl)
    (of_decide_eq_true (by kernel_rfl)) (by unfold Func.isWrapper; first | (rw [if_pos (by decide +kernel)]; kernel_rfl) | (rw [if_neg (by decide +kernel)]; exact ⟨rfl, rfl⟩))
    (fun os started H enc _ => lifted os started H enc)

/-- The statement. -/
theorem proved : Rows.SplitPiecesSaid :=
  over
#print axioms proved
end Go.Proofs.Ytlkhmklmiompeaa.splitPieces
