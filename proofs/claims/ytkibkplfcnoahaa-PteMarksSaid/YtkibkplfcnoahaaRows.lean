/-
  No cell of these rows narrows 'for every input' (looked for: loops, veiled, ifaces, maps, wideKeys, modest, calm, conditions, laid).
  DERIVED. THE GIVEN ROWS OF THIS SEAT. 3 by the template 'for every input the law returns true; each argument reads behind the call as it read before'; 0 by the template 'total and deterministic' (their statements: YtkibkplfcnoahaaTotals.lean).
  GIVEN WITH THE SEED: the statements are not yours to turn. If you find one false, say at which input.
  Laid BY PROGRAM, IN A SANDBOX (cutbox-rows.mjs): the forced cells as the released guide's own fill.sh prints them over the translation 26f050204721c85b… (all of the seat's roots in one cut). By AI agents, Wed Nov 11 2026. No macro, syntax, notation, axiom, sorry.
-/
import Derived.Test.YtkibkplfcnoahaaChecked
import GoSem.Claim
import GoSem.ClaimJoined
import GoSem.ClaimMapViews
import Derived.JoinedTies
import Derived.KernelRfl
namespace Go.Proofs.Ytkibkplfcnoahaa
/- THE CELL 'sum', in the pinned program and in every row, IS THE sha256 OF THE DUMP (.gsa) THAT YtkibkplfcnoahaaProg.lean LOADS. Nothing in Lean hashes anything: it is a label: what it is worth is what the hold of that sum in a sandbox is worth. -/
noncomputable def Try.pinned : Pinned := { name := "ytkibkplfcnoahaa", sum := "26f050204721c85bcc72f7ce320afb83f18ba1f788d9ce5437762f8562c74d52", checked := Try.checked }
namespace Rows
def none {H : Type} : Left H := { results := [], args := [] }

/-- 'roebucklaw25.PteKinds': WHATEVER THE INPUT: true; the input reads as it did. -/
def pteKindsSpec : ChangeSpec := { name := "pteKinds", fn := fun _ => fun
  | [d1, d2, d3] => { results := [.lit (.bool true)], args := [d1, d2, d3] }
  | _ => none }
def pteKindsRow : OpenClaim := { program := "ytkibkplfcnoahaa", sum := "26f050204721c85bcc72f7ce320afb83f18ba1f788d9ce5437762f8562c74d52", func := "roebuck/roebucklaw25.PteKinds", spec := "pteKinds", apart := false }
def PteKindsSaid : Prop := pteKindsRow.holds Try.pinned (OpenSpec.ofChange pteKindsSpec)

/-- ITS FALSE NEIGHBOUR: 'it returns false'. Refute it at one input. -/
def pteKindsWrong : ChangeSpec := { name := "pteKinds", fn := fun _ => fun
  | [d1, d2, d3] => { results := [.lit (.bool false)], args := [d1, d2, d3] }
  | _ => none }
def PteKindsWrongFalsely : Prop := pteKindsRow.holds Try.pinned (OpenSpec.ofChange pteKindsWrong)

/-- 'roebucklaw25.PteLets': WHATEVER THE INPUT: true; the input reads as it did. -/
def pteLetsSpec : ChangeSpec := { name := "pteLets", fn := fun _ => fun
  | [d1, d2, d3] => { results := [.lit (.bool true)], args := [d1, d2, d3] }
  | _ => none }
def pteLetsRow : OpenClaim := { program := "ytkibkplfcnoahaa", sum := "26f050204721c85bcc72f7ce320afb83f18ba1f788d9ce5437762f8562c74d52", func := "roebuck/roebucklaw25.PteLets", spec := "pteLets", apart := false }
def PteLetsSaid : Prop := pteLetsRow.holds Try.pinned (OpenSpec.ofChange pteLetsSpec)

/-- ITS FALSE NEIGHBOUR: 'it returns false'. Refute it at one input. -/
def pteLetsWrong : ChangeSpec := { name := "pteLets", fn := fun _ => fun
  | [d1, d2, d3] => { results := [.lit (.bool false)], args := [d1, d2, d3] }
  | _ => none }
def PteLetsWrongFalsely : Prop := pteLetsRow.holds Try.pinned (OpenSpec.ofChange pteLetsWrong)

/-- 'roebucklaw25.PteMarks': WHATEVER THE INPUT: true; the input reads as it did. -/
def pteMarksSpec : ChangeSpec := { name := "pteMarks", fn := fun _ => fun
  | [d1, d2, d3] => { results := [.lit (.bool true)], args := [d1, d2, d3] }
  | _ => none }
def pteMarksRow : OpenClaim := { program := "ytkibkplfcnoahaa", sum := "26f050204721c85bcc72f7ce320afb83f18ba1f788d9ce5437762f8562c74d52", func := "roebuck/roebucklaw25.PteMarks", spec := "pteMarks", apart := false }
def PteMarksSaid : Prop := pteMarksRow.holds Try.pinned (OpenSpec.ofChange pteMarksSpec)

/-- ITS FALSE NEIGHBOUR: 'it returns false'. Refute it at one input. -/
def pteMarksWrong : ChangeSpec := { name := "pteMarks", fn := fun _ => fun
  | [d1, d2, d3] => { results := [.lit (.bool false)], args := [d1, d2, d3] }
  | _ => none }
def PteMarksWrongFalsely : Prop := pteMarksRow.holds Try.pinned (OpenSpec.ofChange pteMarksWrong)

/- THE SECOND FORM. 'bulk': how many values and letters a reading holds, each counted each time it is reached (what is shared counts as often as it is met; a slice's spare places count too). A statement '..UptoSaid' is the law's where the arguments, and the package variables that the reading takes, are together of bulk at most 1048576: NARROWER than '..Said'. Prove '..Said' where nothing that the law and all that it calls make is longer than what came in: it says more and counts as full. Else prove '..UptoSaid'. A law counts once. -/
mutual
def uptoBulk {H : Type} : DataW H → Nat
  | .lit (.string bytes) => bytes.length + 1
  | .lit _ => 1
  | .nil => 1
  | .ptr d => uptoBulk d + 1
  | .slice elems spare => uptoBulkAll elems + uptoBulkAll spare + 1
  | .agg parts => uptoBulkAll parts + 1
  | .iface _ d => uptoBulk d + 1
  | .map entries => uptoBulkEntries entries + 1
  | .held _ => 1
def uptoBulkAll {H : Type} : List (DataW H) → Nat
  | [] => 0
  | d :: r => uptoBulk d + uptoBulkAll r
def uptoBulkEntries {H : Type} : List (Lit × DataW H) → Nat
  | [] => 0
  | x :: r => uptoBulkEntry x + uptoBulkEntries r
def uptoBulkEntry {H : Type} : Lit × DataW H → Nat
  | (.string bytes, d) => bytes.length + uptoBulk d + 1
  | (_, d) => uptoBulk d + 1
 end
def uptoSmall : (H : Type) → List (DataW H) → Bool := fun _ ds => decide (uptoBulkAll ds ≤ 1048576)
def OpenSpec.upto (s : _root_.Go.ChangeSpec) : _root_.Go.OpenSpec := { _root_.Go.OpenSpec.ofChange s with cond := some uptoSmall }

/-- 'roebucklaw25.PteKinds', WHERE WHAT IT READS IS OF BULK AT MOST 1048576: true; the input reads as it did. -/
def pteKindsUptoRow : OpenClaim := { program := "ytkibkplfcnoahaa", sum := "26f050204721c85bcc72f7ce320afb83f18ba1f788d9ce5437762f8562c74d52", func := "roebuck/roebucklaw25.PteKinds", spec := "pteKinds", apart := false, narrowed := true }
def PteKindsUptoSaid : Prop := pteKindsUptoRow.holds Try.pinned (OpenSpec.upto pteKindsSpec)

/-- 'roebucklaw25.PteLets', WHERE WHAT IT READS IS OF BULK AT MOST 1048576: true; the input reads as it did. -/
def pteLetsUptoRow : OpenClaim := { program := "ytkibkplfcnoahaa", sum := "26f050204721c85bcc72f7ce320afb83f18ba1f788d9ce5437762f8562c74d52", func := "roebuck/roebucklaw25.PteLets", spec := "pteLets", apart := false, narrowed := true }
def PteLetsUptoSaid : Prop := pteLetsUptoRow.holds Try.pinned (OpenSpec.upto pteLetsSpec)

/-- 'roebucklaw25.PteMarks', WHERE WHAT IT READS IS OF BULK AT MOST 1048576: true; the input reads as it did. -/
def pteMarksUptoRow : OpenClaim := { program := "ytkibkplfcnoahaa", sum := "26f050204721c85bcc72f7ce320afb83f18ba1f788d9ce5437762f8562c74d52", func := "roebuck/roebucklaw25.PteMarks", spec := "pteMarks", apart := false, narrowed := true }
def PteMarksUptoSaid : Prop := pteMarksUptoRow.holds Try.pinned (OpenSpec.upto pteMarksSpec)

end Rows
end Go.Proofs.Ytkibkplfcnoahaa
