/- The law LocksNone: its function answers true for every input, and no argument is changed: the statement as it is given. No conditions. -/
import Derived.Test.YthfccacopffkgaaRows
import Derived.WalkKit
import Derived.ProofKit
import Derived.OpenShut
import Derived.Test.YthfccacopffkgaaFr
import Derived.Test.YthfccacopffkgaaLkE
namespace Go.Proofs.Ythfccacopffkgaa.locksNone
open Go.ChangeShapes Go.WideShapes Go.ChangeAt Go.RowKit
set_option linter.unusedVariables false

theorem own : ownKnob Try.prog.godebug = none := by kernel_rfl

theorem sig (avs : List Am.AV) (H : Am.AH) (h : Am.SigA [.fl false [.n .i64], .fl false [.n .i64]] avs H) : s_lnone avs = some (.c (.b true)) := by
  have h0 := h
  obtain ⟨s0, r0, rfl, k1, h1⟩ := Am.sig_c h0
  obtain ⟨x1, rfl, lo1, hi1⟩ := Am.fk_i k1
  obtain ⟨s1, r1, rfl, k2, h2⟩ := Am.sig_c h1
  obtain ⟨x2, rfl, lo2, hi2⟩ := Am.fk_i k2
  obtain rfl := Am.sig_nil h2
  exact s_lnone_eq

set_option maxRecDepth 100000 in
def pars0 : List Am.Par := [.fl false [.n .i64], .fl false [.n .i64]]
set_option maxRecDepth 100000 in
theorem lifted (os : Os) (started : os.Started) (H : Type) (enc : TypeId × Value → H) :
    ReturnsInHanded {} Try.checked os 6 .any (Rows.locksNoneSpec.pre6 enc Try.prog Try.f6 Rows.locksNoneRow.domain false) (Rows.locksNoneSpec.post enc Try.prog Try.f6 false true false false) := by
  refine returnsInHanded_of_change (C := Try.checked) own started (by kernel_rfl) Try.func6
    (ChangeSpec.witness6 (enc := enc) (C := Try.checked) false ⟨#[], #[.int .i64 0, .int .i64 0], []⟩ 8 (by kernel_rfl) (by kernel_rfl) (by kernel_rfl) (by kernel_rfl)) ?_
  intro W base args ds gs before hval hW _ _
  exact Am.law_post (pars := pars0) (sf := fun a _ => s_lnone a) (tb := 4) ok_lnone.fq sig (by kernel_rfl) (by kernel_rfl) (by kernel_rfl) (by kernel_rfl) Try.underlying4 rfl
    (fun ds h => by match ds, h with | [_, _], _ => rfl) W base args ds gs before hval hW

theorem over : Rows.locksNoneRow.holds Try.pinned (OpenSpec.ofChange Rows.locksNoneSpec) :=
  OpenClaim.holds_of_wide 6 Try.f6 rfl rfl rfl rfl rfl rfl rfl ⟨rfl, rfl, rfl, rfl, rfl⟩ rfl rfl rfl rfl rfl (by kernel_rfl) Try.func6 (by kernel_rfl)
    (of_decide_eq_true (by kernel_rfl)) (by unfold Func.isWrapper; first | (rw [if_pos (by decide +kernel)]; kernel_rfl) | (rw [if_neg (by decide +kernel)]; exact ⟨rfl, rfl⟩))
    (fun os started H enc _ => lifted os started H enc)

/-- The statement. -/
theorem proved : Rows.LocksNoneSaid :=
  over
#print axioms proved
end Go.Proofs.Ythfccacopffkgaa.locksNone
