/-
  No cell of these rows narrows 'for every input' (looked for: loops, veiled, ifaces, maps, wideKeys, modest, calm, conditions, laid).
  DERIVED. THE GIVEN ROWS OF THIS SEAT. 3 by the template 'for every input the law returns true; each argument reads behind the call as it read before'; 0 by the template 'total and deterministic' (their statements: YtkdfblgjhlbpdaaTotals.lean).
  GIVEN WITH THE SEED: the statements are not yours to turn. If you find one false, say at which input.
  Laid BY PROGRAM, IN A SANDBOX (cutbox-rows.mjs): the forced cells as the released guide's own fill.sh prints them over the translation 897b024badc2f200… (all of the seat's roots in one cut). By AI agents, Wed Nov 11 2026. No macro, syntax, notation, axiom, sorry.
-/
import Derived.Test.YtkdfblgjhlbpdaaChecked
import GoSem.Claim
import GoSem.ClaimJoined
import GoSem.ClaimMapViews
import Derived.JoinedTies
import Derived.KernelRfl
namespace Go.Proofs.Ytkdfblgjhlbpdaa
/- THE CELL 'sum', in the pinned program and in every row, IS THE sha256 OF THE DUMP (.gsa) THAT YtkdfblgjhlbpdaaProg.lean LOADS. Nothing in Lean hashes anything: it is a label: what it is worth is what the hold of that sum in a sandbox is worth. -/
noncomputable def Try.pinned : Pinned := { name := "ytkdfblgjhlbpdaa", sum := "897b024badc2f200a1c18dca0537afbe312aff955d31b95f7edffbc62ad25566", checked := Try.checked }
namespace Rows
def none {H : Type} : Left H := { results := [], args := [] }

/-- 'roebucklaw04.KindNames': WHATEVER THE INPUT: true; the input reads as it did. -/
def kindNamesSpec : ChangeSpec := { name := "kindNames", fn := fun _ => fun
  | [d1, d2] => { results := [.lit (.bool true)], args := [d1, d2] }
  | _ => none }
def kindNamesRow : OpenClaim := { program := "ytkdfblgjhlbpdaa", sum := "897b024badc2f200a1c18dca0537afbe312aff955d31b95f7edffbc62ad25566", func := "roebuck/roebucklaw04.KindNames", spec := "kindNames", unfollowed := true, recurses := true, apart := false }
def KindNamesSaid : Prop := kindNamesRow.holds Try.pinned (OpenSpec.ofChange kindNamesSpec)

/-- ITS FALSE NEIGHBOUR: 'it returns false'. Refute it at one input. -/
def kindNamesWrong : ChangeSpec := { name := "kindNames", fn := fun _ => fun
  | [d1, d2] => { results := [.lit (.bool false)], args := [d1, d2] }
  | _ => none }
def KindNamesWrongFalsely : Prop := kindNamesRow.holds Try.pinned (OpenSpec.ofChange kindNamesWrong)

/-- 'roebucklaw04.KindAll': WHATEVER THE INPUT: true; the input reads as it did. -/
def kindAllSpec : ChangeSpec := { name := "kindAll", fn := fun _ => fun
  | [d] => { results := [.lit (.bool true)], args := [d] }
  | _ => none }
def kindAllRow : OpenClaim := { program := "ytkdfblgjhlbpdaa", sum := "897b024badc2f200a1c18dca0537afbe312aff955d31b95f7edffbc62ad25566", func := "roebuck/roebucklaw04.KindAll", spec := "kindAll", unfollowed := true, recurses := true, apart := false }
def KindAllSaid : Prop := kindAllRow.holds Try.pinned (OpenSpec.ofChange kindAllSpec)

/-- ITS FALSE NEIGHBOUR: 'it returns false'. Refute it at one input. -/
def kindAllWrong : ChangeSpec := { name := "kindAll", fn := fun _ => fun
  | [d] => { results := [.lit (.bool false)], args := [d] }
  | _ => none }
def KindAllWrongFalsely : Prop := kindAllRow.holds Try.pinned (OpenSpec.ofChange kindAllWrong)

/-- 'roebucklaw04.KindClasses': WHATEVER THE INPUT: true; the input reads as it did. -/
def kindClassesSpec : ChangeSpec := { name := "kindClasses", fn := fun _ => fun
  | [d] => { results := [.lit (.bool true)], args := [d] }
  | _ => none }
def kindClassesRow : OpenClaim := { program := "ytkdfblgjhlbpdaa", sum := "897b024badc2f200a1c18dca0537afbe312aff955d31b95f7edffbc62ad25566", func := "roebuck/roebucklaw04.KindClasses", spec := "kindClasses", unfollowed := true, recurses := true, apart := false }
def KindClassesSaid : Prop := kindClassesRow.holds Try.pinned (OpenSpec.ofChange kindClassesSpec)

/-- ITS FALSE NEIGHBOUR: 'it returns false'. Refute it at one input. -/
def kindClassesWrong : ChangeSpec := { name := "kindClasses", fn := fun _ => fun
  | [d] => { results := [.lit (.bool false)], args := [d] }
  | _ => none }
def KindClassesWrongFalsely : Prop := kindClassesRow.holds Try.pinned (OpenSpec.ofChange kindClassesWrong)

/- THE SECOND FORM. 'bulk': how many values and letters a reading holds, each counted each time it is reached (what is shared counts as often as it is met; a slice's spare places count too). A statement '..UptoSaid' is the law's where the arguments, and the package variables that the reading takes, are together of bulk at most 1048576: NARROWER than '..Said'. Prove '..Said' where nothing that the law and all that it calls make is longer than what came in: it says more and counts as full. Else prove '..UptoSaid'. A law counts once. -/
mutual
def uptoBulk {H : Type} : DataW H → Nat
  | .lit (.string bytes) => bytes.length + 1
  | .lit _ => 1
  | .nil => 1
  | .ptr d => uptoBulk d + 1
  | .slice elems spare => uptoBulkAll elems + uptoBulkAll spare + 1
  | .agg parts => uptoBulkAll parts + 1
  | .iface _ d => uptoBulk d + 1
  | .map entries => uptoBulkEntries entries + 1
  | .held _ => 1
def uptoBulkAll {H : Type} : List (DataW H) → Nat
  | [] => 0
  | d :: r => uptoBulk d + uptoBulkAll r
def uptoBulkEntries {H : Type} : List (Lit × DataW H) → Nat
  | [] => 0
  | x :: r => uptoBulkEntry x + uptoBulkEntries r
def uptoBulkEntry {H : Type} : Lit × DataW H → Nat
  | (.string bytes, d) => bytes.length + uptoBulk d + 1
  | (_, d) => uptoBulk d + 1
 end
def uptoSmall : (H : Type) → List (DataW H) → Bool := fun _ ds => decide (uptoBulkAll ds ≤ 1048576)
def OpenSpec.upto (s : _root_.Go.ChangeSpec) : _root_.Go.OpenSpec := { _root_.Go.OpenSpec.ofChange s with cond := some uptoSmall }

/-- 'roebucklaw04.KindNames', WHERE WHAT IT READS IS OF BULK AT MOST 1048576: true; the input reads as it did. -/
def kindNamesUptoRow : OpenClaim := { program := "ytkdfblgjhlbpdaa", sum := "897b024badc2f200a1c18dca0537afbe312aff955d31b95f7edffbc62ad25566", func := "roebuck/roebucklaw04.KindNames", spec := "kindNames", unfollowed := true, recurses := true, apart := false, narrowed := true }
def KindNamesUptoSaid : Prop := kindNamesUptoRow.holds Try.pinned (OpenSpec.upto kindNamesSpec)

/-- 'roebucklaw04.KindAll', WHERE WHAT IT READS IS OF BULK AT MOST 1048576: true; the input reads as it did. -/
def kindAllUptoRow : OpenClaim := { program := "ytkdfblgjhlbpdaa", sum := "897b024badc2f200a1c18dca0537afbe312aff955d31b95f7edffbc62ad25566", func := "roebuck/roebucklaw04.KindAll", spec := "kindAll", unfollowed := true, recurses := true, apart := false, narrowed := true }
def KindAllUptoSaid : Prop := kindAllUptoRow.holds Try.pinned (OpenSpec.upto kindAllSpec)

/-- 'roebucklaw04.KindClasses', WHERE WHAT IT READS IS OF BULK AT MOST 1048576: true; the input reads as it did. -/
def kindClassesUptoRow : OpenClaim := { program := "ytkdfblgjhlbpdaa", sum := "897b024badc2f200a1c18dca0537afbe312aff955d31b95f7edffbc62ad25566", func := "roebuck/roebucklaw04.KindClasses", spec := "kindClasses", unfollowed := true, recurses := true, apart := false, narrowed := true }
def KindClassesUptoSaid : Prop := kindClassesUptoRow.holds Try.pinned (OpenSpec.upto kindClassesSpec)

end Rows
end Go.Proofs.Ytkdfblgjhlbpdaa
