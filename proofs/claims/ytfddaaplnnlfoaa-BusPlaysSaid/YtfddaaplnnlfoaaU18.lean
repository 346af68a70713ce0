/- Layer 17: is a port as the document's: contracts. -/
import Derived.Test.YtfddaaplnnlfoaaU17
namespace Go.Proofs.Ytfddaaplnnlfoaa
open Go.Am
set_option linter.unusedSimpArgs false
set_option linter.unusedVariables false
noncomputable section

def holdT (t u : Pt) : Bool := decide (t.A = u.A) && (decide (t.B = u.B) && ((!decide (causeP t = 1)) == (!decide (causeP u = 1))))
def s_holds (args : List AV) (H : AH) : Option AV :=
  match args with
  | [.c (.p id 0 0), .g c] =>
    match ptD H id, rpD H c with
    | some (t, _, _), some (u, _, _) => if t.A.length ≤ 1000000 ∧ t.B.length ≤ 1000000 then some (.c (.b (holdT t u))) else none
    | _, _ => none
  | _ => none
theorem s_holds_eq {id : Nat} {H : AH} {t u : Pt} {x y x' y' : Sc} (h1 : ptD H id = some (t, x, y)) (h2 : RpOk H u x' y') (h3 : t.A.length ≤ 1000000 ∧ t.B.length ≤ 1000000) : s_holds [.c (.p id 0 0), .g (rpC u x' y')] H = some (.c (.b (holdT t u))) := by
  simp only [s_holds, h1, rpD_of h2]; rw [if_pos h3]
set_option maxHeartbeats 8000000 in
end
end Go.Proofs.Ytfddaaplnnlfoaa
