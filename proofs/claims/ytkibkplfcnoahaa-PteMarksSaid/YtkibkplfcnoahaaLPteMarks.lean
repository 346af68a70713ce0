/- The law PteMarks: its function answers true for every input, and no argument is changed: the statement as it is given. No conditions. -/
import Derived.Test.YtkibkplfcnoahaaRows
import Derived.WalkKit
import Derived.ProofKit
import Derived.OpenShut
import Derived.Test.YtkibkplfcnoahaaFr
import Derived.Test.YtkibkplfcnoahaaP3
namespace Go.Proofs.Ytkibkplfcnoahaa.pteMarks
open Go.ChangeShapes Go.WideShapes Go.ChangeAt Go.RowKit
set_option linter.unusedVariables false

theorem own : ownKnob Try.prog.godebug = none := by kernel_rfl

theorem sig (avs : List Am.AV) (H : Am.AH) (h : Am.SigA [.fl false [.n .u64], .fl true [.n .i64, .n .i64, .q, .q], .fl true [.n .u64, .n .u64, .n .u64]] avs H) : s_pteMarks avs = some (.c (.b true)) := by
  have h0 := h
  obtain ⟨s0, r0, rfl, k1, h1⟩ := Am.sig_c h0
  obtain ⟨x1, rfl⟩ := Am.fk_u k1
  obtain ⟨l1, r1, rfl, g1_0, h2⟩ := Am.sig_g h1
  obtain ⟨s1_0, t1_0, rfl, k2, g1_1⟩ := Am.fit_cons g1_0
  obtain ⟨x2, rfl, lo2, hi2⟩ := Am.fk_i k2
  obtain ⟨s1_1, t1_1, rfl, k3, g1_2⟩ := Am.fit_cons g1_1
  obtain ⟨x3, rfl, lo3, hi3⟩ := Am.fk_i k3
  obtain ⟨s1_2, t1_2, rfl, k4, g1_3⟩ := Am.fit_cons g1_2
  obtain ⟨x4, rfl⟩ := Am.fk_q k4
  obtain ⟨s1_3, t1_3, rfl, k5, g1_4⟩ := Am.fit_cons g1_3
  obtain ⟨x5, rfl⟩ := Am.fk_q k5
  obtain rfl := Am.fit_nil g1_4
  obtain ⟨l2, r2, rfl, g2_0, h3⟩ := Am.sig_g h2
  obtain ⟨s2_0, t2_0, rfl, k6, g2_1⟩ := Am.fit_cons g2_0
  obtain ⟨x6, rfl⟩ := Am.fk_u k6
  obtain ⟨s2_1, t2_1, rfl, k7, g2_2⟩ := Am.fit_cons g2_1
  obtain ⟨x7, rfl⟩ := Am.fk_u k7
  obtain ⟨s2_2, t2_2, rfl, k8, g2_3⟩ := Am.fit_cons g2_2
  obtain ⟨x8, rfl⟩ := Am.fk_u k8
  obtain rfl := Am.fit_nil g2_3
  obtain rfl := Am.sig_nil h3
  exact s_pteMarks_eq

set_option maxRecDepth 100000 in
theorem lifted (os : Os) (started : os.Started) (H : Type) (enc : TypeId × Value → H) :
    ReturnsInHanded {} Try.checked os 5 .any (Rows.pteMarksSpec.pre6 enc Try.prog Try.f5 Rows.pteMarksRow.domain false) (Rows.pteMarksSpec.post enc Try.prog Try.f5 false true false false) := by
  refine returnsInHanded_of_change (C := Try.checked) own started (by kernel_rfl) Try.func5
    (ChangeSpec.witness6 (enc := enc) (C := Try.checked) false ⟨#[], #[.int .u64 0, .agg #[.int .i64 0, .int .i64 0, .bool false, .bool false], .agg #[.int .u64 0, .int .u64 0, .int .u64 0]], []⟩ 8 (by kernel_rfl) (by kernel_rfl) (by kernel_rfl) (by kernel_rfl)) ?_
  intro W base args ds gs before hval hW _ _
  exact Am.law_post (pars := [.fl false [.n .u64], .fl true [.n .i64, .n .i64, .q, .q], .fl true [.n .u64, .n .u64, .n .u64]]) (sf := fun a _ => s_pteMarks a) (tb := 4) ok_pteMarks.fq sig (by kernel_rfl) (by kernel_rfl) (by kernel_rfl) (by kernel_rfl) Try.underlying4 rfl
    (fun ds h => by match ds, h with | [_, _, _], _ => rfl) W base args ds gs before hval hW

theorem over : Rows.pteMarksRow.holds Try.pinned (OpenSpec.ofChange Rows.pteMarksSpec) :=
  OpenClaim.holds_of_wide 5 Try.f5 rfl rfl rfl rfl rfl rfl rfl ⟨rfl, rfl, rfl, rfl, rfl⟩ rfl rfl rfl rfl rfl (by kernel_rfl) Try.func5 (by kernel_rfl)
    (of_decide_eq_true (by kernel_rfl)) (by unfold Func.isWrapper; first | (rw [if_pos (by decide +kernel)]; kernel_rfl) | (rw [if_neg (by decide +kernel)]; exact ⟨rfl, rfl⟩))
    (fun os started H enc _ => lifted os started H enc)

/-- The statement. -/
theorem proved : Rows.PteMarksSaid :=
  over
#print axioms proved
end Go.Proofs.Ytkibkplfcnoahaa.pteMarks
