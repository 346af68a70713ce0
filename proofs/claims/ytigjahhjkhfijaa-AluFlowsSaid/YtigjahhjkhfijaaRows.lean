/-
  No cell of these rows narrows 'for every input' (looked for: loops, veiled, ifaces, maps, wideKeys, modest, calm, conditions, laid).
  DERIVED. THE GIVEN ROWS OF THIS SEAT. 3 by the template 'for every input the law returns true; each argument reads behind the call as it read before'; 0 by the template 'total and deterministic' (their statements: YtigjahhjkhfijaaTotals.lean).
  GIVEN WITH THE SEED: the statements are not yours to turn. If you find one false, say at which input.
  Laid BY PROGRAM, IN A SANDBOX (cutbox-rows.mjs): the forced cells as the released guide's own fill.sh prints them over the translation 56782e20bd261771… (all of the seat's roots in one cut). By AI agents, Wed Nov 11 2026. No macro, syntax, notation, axiom, sorry.
-/
import Derived.Test.YtigjahhjkhfijaaChecked
import GoSem.Claim
import GoSem.ClaimJoined
import GoSem.ClaimMapViews
import Derived.JoinedTies
import Derived.KernelRfl
namespace Go.Proofs.Ytigjahhjkhfijaa
/- THE CELL 'sum', in the pinned program and in every row, IS THE sha256 OF THE DUMP (.gsa) THAT YtigjahhjkhfijaaProg.lean LOADS. Nothing in Lean hashes anything: it is a label: what it is worth is what the hold of that sum in a sandbox is worth. -/
noncomputable def Try.pinned : Pinned := { name := "ytigjahhjkhfijaa", sum := "56782e20bd261771255cec7901bdfb550aed56c6ec24ed52ed684a12843134a3", checked := Try.checked }
namespace Rows
def none {H : Type} : Left H := { results := [], args := [] }

/-- 'roebucklaw07.AluDoes': WHATEVER THE INPUT: true; the input reads as it did. -/
def aluDoesSpec : ChangeSpec := { name := "aluDoes", fn := fun _ => fun
  | [d1, d2, d3] => { results := [.lit (.bool true)], args := [d1, d2, d3] }
  | _ => none }
def aluDoesRow : OpenClaim := { program := "ytigjahhjkhfijaa", sum := "56782e20bd261771255cec7901bdfb550aed56c6ec24ed52ed684a12843134a3", func := "roebuck/roebucklaw07.AluDoes", spec := "aluDoes", unfollowed := true, recurses := true, apart := false }
def AluDoesSaid : Prop := aluDoesRow.holds Try.pinned (OpenSpec.ofChange aluDoesSpec)

/-- ITS FALSE NEIGHBOUR: 'it returns false'. Refute it at one input. -/
def aluDoesWrong : ChangeSpec := { name := "aluDoes", fn := fun _ => fun
  | [d1, d2, d3] => { results := [.lit (.bool false)], args := [d1, d2, d3] }
  | _ => none }
def AluDoesWrongFalsely : Prop := aluDoesRow.holds Try.pinned (OpenSpec.ofChange aluDoesWrong)

/-- 'roebucklaw07.AluLaws': WHATEVER THE INPUT: true; the input reads as it did. -/
def aluLawsSpec : ChangeSpec := { name := "aluLaws", fn := fun _ => fun
  | [d1, d2, d3] => { results := [.lit (.bool true)], args := [d1, d2, d3] }
  | _ => none }
def aluLawsRow : OpenClaim := { program := "ytigjahhjkhfijaa", sum := "56782e20bd261771255cec7901bdfb550aed56c6ec24ed52ed684a12843134a3", func := "roebuck/roebucklaw07.AluLaws", spec := "aluLaws", unfollowed := true, recurses := true, apart := false }
def AluLawsSaid : Prop := aluLawsRow.holds Try.pinned (OpenSpec.ofChange aluLawsSpec)

/-- ITS FALSE NEIGHBOUR: 'it returns false'. Refute it at one input. -/
def aluLawsWrong : ChangeSpec := { name := "aluLaws", fn := fun _ => fun
  | [d1, d2, d3] => { results := [.lit (.bool false)], args := [d1, d2, d3] }
  | _ => none }
def AluLawsWrongFalsely : Prop := aluLawsRow.holds Try.pinned (OpenSpec.ofChange aluLawsWrong)

/-- 'roebucklaw07.AluFlows': WHATEVER THE INPUT: true; the input reads as it did. -/
def aluFlowsSpec : ChangeSpec := { name := "aluFlows", fn := fun _ => fun
  | [d1, d2] => { results := [.lit (.bool true)], args := [d1, d2] }
  | _ => none }
def aluFlowsRow : OpenClaim := { program := "ytigjahhjkhfijaa", sum := "56782e20bd261771255cec7901bdfb550aed56c6ec24ed52ed684a12843134a3", func := "roebuck/roebucklaw07.AluFlows", spec := "aluFlows", unfollowed := true, recurses := true, apart := false }
def AluFlowsSaid : Prop := aluFlowsRow.holds Try.pinned (OpenSpec.ofChange aluFlowsSpec)

/-- ITS FALSE NEIGHBOUR: 'it returns false'. Refute it at one input. -/
def aluFlowsWrong : ChangeSpec := { name := "aluFlows", fn := fun _ => fun
  | [d1, d2] => { results := [.lit (.bool false)], args := [d1, d2] }
  | _ => none }
def AluFlowsWrongFalsely : Prop := aluFlowsRow.holds Try.pinned (OpenSpec.ofChange aluFlowsWrong)

/- THE SECOND FORM. 'bulk': how many values and letters a reading holds, each counted each time it is reached (what is shared counts as often as it is met; a slice's spare places count too). A statement '..UptoSaid' is the law's where the arguments, and the package variables that the reading takes, are together of bulk at most 1048576: NARROWER than '..Said'. Prove '..Said' where nothing that the law and all that it calls make is longer than what came in: it says more and counts as full. Else prove '..UptoSaid'. A law counts once. -/
mutual
def uptoBulk {H : Type} : DataW H → Nat
  | .lit (.string bytes) => bytes.length + 1
  | .lit _ => 1
  | .nil => 1
  | .ptr d => uptoBulk d + 1
  | .slice elems spare => uptoBulkAll elems + uptoBulkAll spare + 1
  | .agg parts => uptoBulkAll parts + 1
  | .iface _ d => uptoBulk d + 1
  | .map entries => uptoBulkEntries entries + 1
  | .held _ => 1
def uptoBulkAll {H : Type} : List (DataW H) → Nat
  | [] => 0
  | d :: r => uptoBulk d + uptoBulkAll r
def uptoBulkEntries {H : Type} : List (Lit × DataW H) → Nat
  | [] => 0
  | x :: r => uptoBulkEntry x + uptoBulkEntries r
def uptoBulkEntry {H : Type} : Lit × DataW H → Nat
  | (.string bytes, d) => bytes.length + uptoBulk d + 1
  | (_, d) => uptoBulk d + 1
 end
def uptoSmall : (H : Type) → List (DataW H) → Bool := fun _ ds => decide (uptoBulkAll ds ≤ 1048576)
def OpenSpec.upto (s : _root_.Go.ChangeSpec) : _root_.Go.OpenSpec := { _root_.Go.OpenSpec.ofChange s with cond := some uptoSmall }

/-- 'roebucklaw07.AluDoes', WHERE WHAT IT READS IS OF BULK AT MOST 1048576: true; the input reads as it did. -/
def aluDoesUptoRow : OpenClaim := { program := "ytigjahhjkhfijaa", sum := "56782e20bd261771255cec7901bdfb550aed56c6ec24ed52ed684a12843134a3", func := "roebuck/roebucklaw07.AluDoes", spec := "aluDoes", unfollowed := true, recurses := true, apart := false, narrowed := true }
def AluDoesUptoSaid : Prop := aluDoesUptoRow.holds Try.pinned (OpenSpec.upto aluDoesSpec)

/-- 'roebucklaw07.AluLaws', WHERE WHAT IT READS IS OF BULK AT MOST 1048576: true; the input reads as it did. -/
def aluLawsUptoRow : OpenClaim := { program := "ytigjahhjkhfijaa", sum := "56782e20bd261771255cec7901bdfb550aed56c6ec24ed52ed684a12843134a3", func := "roebuck/roebucklaw07.AluLaws", spec := "aluLaws", unfollowed := true, recurses := true, apart := false, narrowed := true }
def AluLawsUptoSaid : Prop := aluLawsUptoRow.holds Try.pinned (OpenSpec.upto aluLawsSpec)

/-- 'roebucklaw07.AluFlows', WHERE WHAT IT READS IS OF BULK AT MOST 1048576: true; the input reads as it did. -/
def aluFlowsUptoRow : OpenClaim := { program := "ytigjahhjkhfijaa", sum := "56782e20bd261771255cec7901bdfb550aed56c6ec24ed52ed684a12843134a3", func := "roebuck/roebucklaw07.AluFlows", spec := "aluFlows", unfollowed := true, recurses := true, apart := false, narrowed := true }
def AluFlowsUptoSaid : Prop := aluFlowsUptoRow.holds Try.pinned (OpenSpec.upto aluFlowsSpec)

end Rows
end Go.Proofs.Ytigjahhjkhfijaa
