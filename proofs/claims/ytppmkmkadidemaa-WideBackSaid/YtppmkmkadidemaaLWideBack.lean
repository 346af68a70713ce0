/- The law WideBack: its function answers true for every input, and no argument is changed: the statement as it is given. No conditions. -/
import Derived.Test.YtppmkmkadidemaaRows
import Derived.WalkKit
import Derived.ProofKit
import Derived.OpenShut
import Derived.Test.YtppmkmkadidemaaFr
import Derived.Test.YtppmkmkadidemaaWideY
namespace Go.Proofs.Ytppmkmkadidemaa.wideBack
open Go.ChangeShapes Go.WideShapes Go.ChangeAt Go.RowKit
set_option linter.unusedVariables false

theorem own : ownKnob Try.prog.godebug = none := by kernel_rfl

theorem sig (avs : List Am.AV) (H : Am.AH) (h : Am.SigA [.fl true [.n .u64, .n .u64], .fl false [.n .u64]] avs H) : s_wideBack avs = some (.c (.b true)) := by
  have h0 := h
  obtain ⟨l0, r0, rfl, g0_0, h1⟩ := Am.sig_g h0
  obtain ⟨s0_0, t0_0, rfl, k1, g0_1⟩ := Am.fit_cons g0_0
  obtain ⟨x1, rfl⟩ := Am.fk_u k1
  obtain ⟨s0_1, t0_1, rfl, k2, g0_2⟩ := Am.fit_cons g0_1
  obtain ⟨x2, rfl⟩ := Am.fk_u k2
  obtain rfl := Am.fit_nil g0_2
  obtain ⟨s1, r1, rfl, k3, h2⟩ := Am.sig_c h1
  obtain ⟨x3, rfl⟩ := Am.fk_u k3
  obtain rfl := Am.sig_nil h2
  exact s_wideBack_eq

set_option maxRecDepth 100000 in
theorem lifted (os : Os) (started : os.Started) (H : Type) (enc : TypeId × Value → H) :
    ReturnsInHanded {} Try.checked os 7 .any (Rows.wideBackSpec.pre6 enc Try.prog Try.f7 Rows.wideBackRow.domain false) (Rows.wideBackSpec.post enc Try.prog Try.f7 false true false false) := by
  refine returnsInHanded_of_change (C := Try.checked) own started (by kernel_rfl) Try.func7
    (ChangeSpec.witness6 (enc := enc) (C := Try.checked) false ⟨#[], #[.agg #[.int .u64 0, .int .u64 0], .int .u64 0], []⟩ 8 (by kernel_rfl) (by kernel_rfl) (by kernel_rfl) (by kernel_rfl)) ?_
  intro W base args ds gs before hval hW _ _
  exact Am.law_post (pars := [.fl true [.n .u64, .n .u64], .fl false [.n .u64]]) (sf := fun a _ => s_wideBack a) (tb := 4) ok_wideBack.fq sig (by kernel_rfl) (by kernel_rfl) (by kernel_rfl) (by kernel_rfl) Try.underlying4 rfl
    (fun ds h => by match ds, h with | [_, _], _ => rfl) W base args ds gs before hval hW

theorem over : Rows.wideBackRow.holds Try.pinned (OpenSpec.ofChange Rows.wideBackSpec) :=
  OpenClaim.holds_of_wide 7 Try.f7 rfl rfl rfl rfl rfl rfl rfl ⟨rfl, rfl, rfl, rfl, rfl⟩ rfl rfl rfl rfl rfl (by kernel_rfl) Try.func7 (by kernel_rfl)
    (of_decide_eq_true (by kernel_rfl)) (by unfold Func.isWrapper; first | (rw [if_pos (by decide +kernel)]; kernel_rfl) | (rw [if_neg (by decide +kernel)]; exact ⟨rfl, rfl⟩))
    (fun os started H enc _ => lifted os started H enc)

/-- The statement. -/
theorem proved : Rows.WideBackSaid :=
  over
#print axioms proved
end Go.Proofs.Ytppmkmkadidemaa.wideBack
