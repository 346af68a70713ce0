/- Layer 2's ops of the lowest 32 bits. -/
import Derived.Test.YtanblagbkhpolaaWdA
import Derived.Test.YtanblagbkhpolaaR2
import Derived.Test.YtanblagbkhpolaaB2
namespace Go.Proofs.Ytanblagbkhpolaa
open Go.Am
set_option linter.unusedSimpArgs false
set_option linter.unusedVariables false
noncomputable section

def ofF (pl : Bool) (a : BitVec 64) : BitVec 64 := if pl = true then lowU a 32 else signU a 32
def opF (fn : Nat) (x y : BitVec 64) : BitVec 64 :=
  if fn = 900001 then x * y else if fn = 900002 then divS x y else if fn = 900003 then x - y * divS x y else if fn = 900004 then divU x y else x - y * divU x y
def s_short (args : List AV) : Option AV :=
  match args with
  | [.c .nilf, .c (.b _), .c (.u _), .c (.u _)] => some (.c (.u 0#64))
  | [.c (.f fn []), .c (.b pl), .c (.u a), .c (.u b)] =>
    if fn = 900001 ∨ fn = 900002 ∨ fn = 900003 ∨ fn = 900004 ∨ fn = 900005 then some (.c (.u (signU (opF fn (ofF pl a) (ofF pl b)) 32))) else none
  | _ => none
theorem s_short_nil {pl : Bool} {a b : BitVec 64} : s_short [.c .nilf, .c (.b pl), .c (.u a), .c (.u b)] = some (.c (.u 0#64)) := rfl
theorem s_short_mul {pl : Bool} {a b : BitVec 64} : s_short [.c (.f 900001 []), .c (.b pl), .c (.u a), .c (.u b)] = some (.c (.u (signU (ofF pl a * ofF pl b) 32))) := rfl
theorem s_short_div {pl : Bool} {a b : BitVec 64} : s_short [.c (.f 900002 []), .c (.b pl), .c (.u a), .c (.u b)] = some (.c (.u (signU (divS (ofF pl a) (ofF pl b)) 32))) := rfl
theorem s_short_rem {pl : Bool} {a b : BitVec 64} : s_short [.c (.f 900003 []), .c (.b pl), .c (.u a), .c (.u b)] = some (.c (.u (signU (ofF pl a - ofF pl b * divS (ofF pl a) (ofF pl b)) 32))) := rfl
theorem s_short_divPlain {pl : Bool} {a b : BitVec 64} : s_short [.c (.f 900004 []), .c (.b pl), .c (.u a), .c (.u b)] = some (.c (.u (signU (divU (ofF pl a) (ofF pl b)) 32))) := rfl
theorem s_short_remPlain {pl : Bool} {a b : BitVec 64} : s_short [.c (.f 900005 []), .c (.b pl), .c (.u a), .c (.u b)] = some (.c (.u (signU (ofF pl a - ofF pl b * divU (ofF pl a) (ofF pl b)) 32))) := rfl



end
end Go.Proofs.Ytanblagbkhpolaa
