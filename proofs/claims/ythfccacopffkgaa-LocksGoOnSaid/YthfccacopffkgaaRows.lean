/-
  No cell of these rows narrows 'for every input' (looked for: loops, veiled, ifaces, maps, wideKeys, modest, calm, conditions, laid).
  DERIVED. THE GIVEN ROWS OF THIS SEAT. 4 by the template 'for every input the law returns true; each argument reads behind the call as it read before'; 0 by the template 'total and deterministic' (their statements: YthfccacopffkgaaTotals.lean).
  GIVEN WITH THE SEED: the statements are not yours to turn. If you find one false, say at which input.
  Laid BY PROGRAM, IN A SANDBOX (cutbox-rows.mjs): the forced cells as the released guide's own fill.sh prints them over the translation 1cc91299cf9d4e7b… (all of the seat's roots in one cut). By AI agents, Wed Nov 11 2026. No macro, syntax, notation, axiom, sorry.
-/
import Derived.Test.YthfccacopffkgaaChecked
import GoSem.Claim
import GoSem.ClaimJoined
import GoSem.ClaimMapViews
import Derived.JoinedTies
import Derived.KernelRfl
namespace Go.Proofs.Ythfccacopffkgaa
/- THE CELL 'sum', in the pinned program and in every row, IS THE sha256 OF THE DUMP (.gsa) THAT YthfccacopffkgaaProg.lean LOADS. Nothing in Lean hashes anything: it is a label: what it is worth is what the hold of that sum in a sandbox is worth. -/
noncomputable def Try.pinned : Pinned := { name := "ythfccacopffkgaa", sum := "1cc91299cf9d4e7bfb5999476bca41ecbe587722384528103f643919568f98e0", checked := Try.checked }
namespace Rows
def none {H : Type} : Left H := { results := [], args := [] }

/-- 'roebucklaw12.LocksGoOn': WHATEVER THE INPUT: true; the input reads as it did. -/
def locksGoOnSpec : ChangeSpec := { name := "locksGoOn", fn := fun _ => fun
  | [d1, d2] => { results := [.lit (.bool true)], args := [d1, d2] }
  | _ => none }
def locksGoOnRow : OpenClaim := { program := "ythfccacopffkgaa", sum := "1cc91299cf9d4e7bfb5999476bca41ecbe587722384528103f643919568f98e0", func := "roebuck/roebucklaw12.LocksGoOn", spec := "locksGoOn", unfollowed := true, recurses := true, apart := false }
def LocksGoOnSaid : Prop := locksGoOnRow.holds Try.pinned (OpenSpec.ofChange locksGoOnSpec)

/-- ITS FALSE NEIGHBOUR: 'it returns false'. Refute it at one input. -/
def locksGoOnWrong : ChangeSpec := { name := "locksGoOn", fn := fun _ => fun
  | [d1, d2] => { results := [.lit (.bool false)], args := [d1, d2] }
  | _ => none }
def LocksGoOnWrongFalsely : Prop := locksGoOnRow.holds Try.pinned (OpenSpec.ofChange locksGoOnWrong)

/-- 'roebucklaw12.LocksPlay': WHATEVER THE INPUT: true; the input reads as it did. -/
def locksPlaySpec : ChangeSpec := { name := "locksPlay", fn := fun _ => fun
  | [d1, d2, d3] => { results := [.lit (.bool true)], args := [d1, d2, d3] }
  | _ => none }
def locksPlayRow : OpenClaim := { program := "ythfccacopffkgaa", sum := "1cc91299cf9d4e7bfb5999476bca41ecbe587722384528103f643919568f98e0", func := "roebuck/roebucklaw12.LocksPlay", spec := "locksPlay", unfollowed := true, recurses := true, apart := false }
def LocksPlaySaid : Prop := locksPlayRow.holds Try.pinned (OpenSpec.ofChange locksPlaySpec)

/-- ITS FALSE NEIGHBOUR: 'it returns false'. Refute it at one input. -/
def locksPlayWrong : ChangeSpec := { name := "locksPlay", fn := fun _ => fun
  | [d1, d2, d3] => { results := [.lit (.bool false)], args := [d1, d2, d3] }
  | _ => none }
def LocksPlayWrongFalsely : Prop := locksPlayRow.holds Try.pinned (OpenSpec.ofChange locksPlayWrong)

/-- 'roebucklaw12.LocksJobs': WHATEVER THE INPUT: true; the input reads as it did. -/
def locksJobsSpec : ChangeSpec := { name := "locksJobs", fn := fun _ => fun
  | [d1, d2, d3] => { results := [.lit (.bool true)], args := [d1, d2, d3] }
  | _ => none }
def locksJobsRow : OpenClaim := { program := "ythfccacopffkgaa", sum := "1cc91299cf9d4e7bfb5999476bca41ecbe587722384528103f643919568f98e0", func := "roebuck/roebucklaw12.LocksJobs", spec := "locksJobs", unfollowed := true, recurses := true, apart := false }
def LocksJobsSaid : Prop := locksJobsRow.holds Try.pinned (OpenSpec.ofChange locksJobsSpec)

/-- ITS FALSE NEIGHBOUR: 'it returns false'. Refute it at one input. -/
def locksJobsWrong : ChangeSpec := { name := "locksJobs", fn := fun _ => fun
  | [d1, d2, d3] => { results := [.lit (.bool false)], args := [d1, d2, d3] }
  | _ => none }
def LocksJobsWrongFalsely : Prop := locksJobsRow.holds Try.pinned (OpenSpec.ofChange locksJobsWrong)

/-- 'roebucklaw12.LocksNone': WHATEVER THE INPUT: true; the input reads as it did. -/
def locksNoneSpec : ChangeSpec := { name := "locksNone", fn := fun _ => fun
  | [d1, d2] => { results := [.lit (.bool true)], args := [d1, d2] }
  | _ => none }
def locksNoneRow : OpenClaim := { program := "ythfccacopffkgaa", sum := "1cc91299cf9d4e7bfb5999476bca41ecbe587722384528103f643919568f98e0", func := "roebuck/roebucklaw12.LocksNone", spec := "locksNone", unfollowed := true, recurses := true, apart := false }
def LocksNoneSaid : Prop := locksNoneRow.holds Try.pinned (OpenSpec.ofChange locksNoneSpec)

/-- ITS FALSE NEIGHBOUR: 'it returns false'. Refute it at one input. -/
def locksNoneWrong : ChangeSpec := { name := "locksNone", fn := fun _ => fun
  | [d1, d2] => { results := [.lit (.bool false)], args := [d1, d2] }
  | _ => none }
def LocksNoneWrongFalsely : Prop := locksNoneRow.holds Try.pinned (OpenSpec.ofChange locksNoneWrong)

/- THE SECOND FORM. 'bulk': how many values and letters a reading holds, each counted each time it is reached (what is shared counts as often as it is met; a slice's spare places count too). A statement '..UptoSaid' is the law's where the arguments, and the package variables that the reading takes, are together of bulk at most 1048576: NARROWER than '..Said'. Prove '..Said' where nothing that the law and all that it calls make is longer than what came in: it says more and counts as full. Else prove '..UptoSaid'. A law counts once. -/
mutual
def uptoBulk {H : Type} : DataW H → Nat
  | .lit (.string bytes) => bytes.length + 1
  | .lit _ => 1
  | .nil => 1
  | .ptr d => uptoBulk d + 1
  | .slice elems spare => uptoBulkAll elems + uptoBulkAll spare + 1
  | .agg parts => uptoBulkAll parts + 1
  | .iface _ d => uptoBulk d + 1
  | .map entries => uptoBulkEntries entries + 1
  | .held _ => 1
def uptoBulkAll {H : Type} : List (DataW H) → Nat
  | [] => 0
  | d :: r => uptoBulk d + uptoBulkAll r
def uptoBulkEntries {H : Type} : List (Lit × DataW H) → Nat
  | [] => 0
  | x :: r => uptoBulkEntry x + uptoBulkEntries r
def uptoBulkEntry {H : Type} : Lit × DataW H → Nat
  | (.string bytes, d) => bytes.length + uptoBulk d + 1
  | (_, d) => uptoBulk d + 1
 end
def uptoSmall : (H : Type) → List (DataW H) → Bool := fun _ ds => decide (uptoBulkAll ds ≤ 1048576)
def OpenSpec.upto (s : _root_.Go.ChangeSpec) : _root_.Go.OpenSpec := { _root_.Go.OpenSpec.ofChange s with cond := some uptoSmall }

/-- 'roebucklaw12.LocksGoOn', WHERE WHAT IT READS IS OF BULK AT MOST 1048576: true; the input reads as it did. -/
def locksGoOnUptoRow : OpenClaim := { program := "ythfccacopffkgaa", sum := "1cc91299cf9d4e7bfb5999476bca41ecbe587722384528103f643919568f98e0", func := "roebuck/roebucklaw12.LocksGoOn", spec := "locksGoOn", unfollowed := true, recurses := true, apart := false, narrowed := true }
def LocksGoOnUptoSaid : Prop := locksGoOnUptoRow.holds Try.pinned (OpenSpec.upto locksGoOnSpec)

/-- 'roebucklaw12.LocksPlay', WHERE WHAT IT READS IS OF BULK AT MOST 1048576: true; the input reads as it did. -/
def locksPlayUptoRow : OpenClaim := { program := "ythfccacopffkgaa", sum := "1cc91299cf9d4e7bfb5999476bca41ecbe587722384528103f643919568f98e0", func := "roebuck/roebucklaw12.LocksPlay", spec := "locksPlay", unfollowed := true, recurses := true, apart := false, narrowed := true }
def LocksPlayUptoSaid : Prop := locksPlayUptoRow.holds Try.pinned (OpenSpec.upto locksPlaySpec)

/-- 'roebucklaw12.LocksJobs', WHERE WHAT IT READS IS OF BULK AT MOST 1048576: true; the input reads as it did. -/
def locksJobsUptoRow : OpenClaim := { program := "ythfccacopffkgaa", sum := "1cc91299cf9d4e7bfb5999476bca41ecbe587722384528103f643919568f98e0", func := "roebuck/roebucklaw12.LocksJobs", spec := "locksJobs", unfollowed := true, recurses := true, apart := false, narrowed := true }
def LocksJobsUptoSaid : Prop := locksJobsUptoRow.holds Try.pinned (OpenSpec.upto locksJobsSpec)

/-- 'roebucklaw12.LocksNone', WHERE WHAT IT READS IS OF BULK AT MOST 1048576: true; the input reads as it did. -/
def locksNoneUptoRow : OpenClaim := { program := "ythfccacopffkgaa", sum := "1cc91299cf9d4e7bfb5999476bca41ecbe587722384528103f643919568f98e0", func := "roebuck/roebucklaw12.LocksNone", spec := "locksNone", unfollowed := true, recurses := true, apart := false, narrowed := true }
def LocksNoneUptoSaid : Prop := locksNoneUptoRow.holds Try.pinned (OpenSpec.upto locksNoneSpec)

end Rows
end Go.Proofs.Ythfccacopffkgaa
