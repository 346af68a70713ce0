/-
  No cell of these rows narrows 'for every input' (looked for: loops, veiled, ifaces, maps, wideKeys, modest, calm, conditions, laid).
  DERIVED. THE GIVEN ROWS OF THIS SEAT. 3 by the template 'for every input the law returns true; each argument reads behind the call as it read before'; 0 by the template 'total and deterministic' (their statements: YtfddaaplnnlfoaaTotals.lean).
  GIVEN WITH THE SEED: the statements are not yours to turn. If you find one false, say at which input.
  Laid BY PROGRAM, IN A SANDBOX (cutbox-rows.mjs): the forced cells as the released guide's own fill.sh prints them over the translation 83597e87be8ff20b… (all of the seat's roots in one cut). By AI agents, Wed Nov 11 2026. No macro, syntax, notation, axiom, sorry.
-/
import Derived.Test.YtfddaaplnnlfoaaChecked
import GoSem.Claim
import GoSem.ClaimJoined
import GoSem.ClaimMapViews
import Derived.JoinedTies
import Derived.KernelRfl
namespace Go.Proofs.Ytfddaaplnnlfoaa
/- THE CELL 'sum', in the pinned program and in every row, IS THE sha256 OF THE DUMP (.gsa) THAT YtfddaaplnnlfoaaProg.lean LOADS. Nothing in Lean hashes anything: it is a label: what it is worth is what the hold of that sum in a sandbox is worth. -/
noncomputable def Try.pinned : Pinned := { name := "ytfddaaplnnlfoaa", sum := "83597e87be8ff20b3cc12f0b2ea0d195b8eb3d8fe3d930fe53cd5ed0abe008b7", checked := Try.checked }
namespace Rows
def none {H : Type} : Left H := { results := [], args := [] }

/-- 'roebucklaw18.BusCalls': WHATEVER THE INPUT: true; the input reads as it did. -/
def busCallsSpec : ChangeSpec := { name := "busCalls", fn := fun _ => fun
  | [d1, d2, d3] => { results := [.lit (.bool true)], args := [d1, d2, d3] }
  | _ => none }
def busCallsRow : OpenClaim := { program := "ytfddaaplnnlfoaa", sum := "83597e87be8ff20b3cc12f0b2ea0d195b8eb3d8fe3d930fe53cd5ed0abe008b7", func := "roebuck/roebucklaw18.BusCalls", spec := "busCalls", apart := false }
def BusCallsSaid : Prop := busCallsRow.holds Try.pinned (OpenSpec.ofChange busCallsSpec)

/-- ITS FALSE NEIGHBOUR: 'it returns false'. Refute it at one input. -/
def busCallsWrong : ChangeSpec := { name := "busCalls", fn := fun _ => fun
  | [d1, d2, d3] => { results := [.lit (.bool false)], args := [d1, d2, d3] }
  | _ => none }
def BusCallsWrongFalsely : Prop := busCallsRow.holds Try.pinned (OpenSpec.ofChange busCallsWrong)

/-- 'roebucklaw18.BusFits': WHATEVER THE INPUT: true; the input reads as it did. -/
def busFitsSpec : ChangeSpec := { name := "busFits", fn := fun _ => fun
  | [d1, d2, d3] => { results := [.lit (.bool true)], args := [d1, d2, d3] }
  | _ => none }
def busFitsRow : OpenClaim := { program := "ytfddaaplnnlfoaa", sum := "83597e87be8ff20b3cc12f0b2ea0d195b8eb3d8fe3d930fe53cd5ed0abe008b7", func := "roebuck/roebucklaw18.BusFits", spec := "busFits", apart := false }
def BusFitsSaid : Prop := busFitsRow.holds Try.pinned (OpenSpec.ofChange busFitsSpec)

/-- ITS FALSE NEIGHBOUR: 'it returns false'. Refute it at one input. -/
def busFitsWrong : ChangeSpec := { name := "busFits", fn := fun _ => fun
  | [d1, d2, d3] => { results := [.lit (.bool false)], args := [d1, d2, d3] }
  | _ => none }
def BusFitsWrongFalsely : Prop := busFitsRow.holds Try.pinned (OpenSpec.ofChange busFitsWrong)

/-- 'roebucklaw18.BusPlays': WHATEVER THE INPUT: true; the input reads as it did. -/
def busPlaysSpec : ChangeSpec := { name := "busPlays", fn := fun _ => fun
  | [d1, d2, d3] => { results := [.lit (.bool true)], args := [d1, d2, d3] }
  | _ => none }
def busPlaysRow : OpenClaim := { program := "ytfddaaplnnlfoaa", sum := "83597e87be8ff20b3cc12f0b2ea0d195b8eb3d8fe3d930fe53cd5ed0abe008b7", func := "roebuck/roebucklaw18.BusPlays", spec := "busPlays", apart := false }
def BusPlaysSaid : Prop := busPlaysRow.holds Try.pinned (OpenSpec.ofChange busPlaysSpec)

/-- ITS FALSE NEIGHBOUR: 'it returns false'. Refute it at one input. -/
def busPlaysWrong : ChangeSpec := { name := "busPlays", fn := fun _ => fun
  | [d1, d2, d3] => { results := [.lit (.bool false)], args := [d1, d2, d3] }
  | _ => none }
def BusPlaysWrongFalsely : Prop := busPlaysRow.holds Try.pinned (OpenSpec.ofChange busPlaysWrong)

/- THE SECOND FORM. 'bulk': how many values and letters a reading holds, each counted each time it is reached (what is shared counts as often as it is met; a slice's spare places count too). A statement '..UptoSaid' is the law's where the arguments, and the package variables that the reading takes, are together of bulk at most 1048576: NARROWER than '..Said'. Prove '..Said' where nothing that the law and all that it calls make is longer than what came in: it says more and counts as full. Else prove '..UptoSaid'. A law counts once. -/
mutual
def uptoBulk {H : Type} : DataW H → Nat
  | .lit (.string bytes) => bytes.length + 1
  | .lit _ => 1
  | .nil => 1
  | .ptr d => uptoBulk d + 1
  | .slice elems spare => uptoBulkAll elems + uptoBulkAll spare + 1
  | .agg parts => uptoBulkAll parts + 1
  | .iface _ d => uptoBulk d + 1
  | .map entries => uptoBulkEntries entries + 1
  | .held _ => 1
def uptoBulkAll {H : Type} : List (DataW H) → Nat
  | [] => 0
  | d :: r => uptoBulk d + uptoBulkAll r
def uptoBulkEntries {H : Type} : List (Lit × DataW H) → Nat
  | [] => 0
  | x :: r => uptoBulkEntry x + uptoBulkEntries r
def uptoBulkEntry {H : Type} : Lit × DataW H → Nat
  | (.string bytes, d) => bytes.length + uptoBulk d + 1
  | (_, d) => uptoBulk d + 1
 end
def uptoSmall : (H : Type) → List (DataW H) → Bool := fun _ ds => decide (uptoBulkAll ds ≤ 1048576)
def OpenSpec.upto (s : _root_.Go.ChangeSpec) : _root_.Go.OpenSpec := { _root_.Go.OpenSpec.ofChange s with cond := some uptoSmall }

/-- 'roebucklaw18.BusCalls', WHERE WHAT IT READS IS OF BULK AT MOST 1048576: true; the input reads as it did. -/
def busCallsUptoRow : OpenClaim := { program := "ytfddaaplnnlfoaa", sum := "83597e87be8ff20b3cc12f0b2ea0d195b8eb3d8fe3d930fe53cd5ed0abe008b7", func := "roebuck/roebucklaw18.BusCalls", spec := "busCalls", apart := false, narrowed := true }
def BusCallsUptoSaid : Prop := busCallsUptoRow.holds Try.pinned (OpenSpec.upto busCallsSpec)

/-- 'roebucklaw18.BusFits', WHERE WHAT IT READS IS OF BULK AT MOST 1048576: true; the input reads as it did. -/
def busFitsUptoRow : OpenClaim := { program := "ytfddaaplnnlfoaa", sum := "83597e87be8ff20b3cc12f0b2ea0d195b8eb3d8fe3d930fe53cd5ed0abe008b7", func := "roebuck/roebucklaw18.BusFits", spec := "busFits", apart := false, narrowed := true }
def BusFitsUptoSaid : Prop := busFitsUptoRow.holds Try.pinned (OpenSpec.upto busFitsSpec)

/-- 'roebucklaw18.BusPlays', WHERE WHAT IT READS IS OF BULK AT MOST 1048576: true; the input reads as it did. -/
def busPlaysUptoRow : OpenClaim := { program := "ytfddaaplnnlfoaa", sum := "83597e87be8ff20b3cc12f0b2ea0d195b8eb3d8fe3d930fe53cd5ed0abe008b7", func := "roebuck/roebucklaw18.BusPlays", spec := "busPlays", apart := false, narrowed := true }
def BusPlaysUptoSaid : Prop := busPlaysUptoRow.holds Try.pinned (OpenSpec.upto busPlaysSpec)

end Rows
end Go.Proofs.Ytfddaaplnnlfoaa
