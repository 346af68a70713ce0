/- Layer 2's ops of the lowest 32 bits. -/
import Derived.Test.YtflcjnekmjdckaaWideU
import Derived.Test.YtflcjnekmjdckaaR2
import Derived.Test.YtflcjnekmjdckaaB2
namespace Go.Proofs.Ytflcjnekmjdckaa
open Go.Am
set_option linter.unusedSimpArgs false
set_option linter.unusedVariables false
noncomputable section

def ofF (pl : Bool) (a : BitVec 64) : BitVec 64 := if pl = true then lowU a 32 else signU a 32
def opF (fn : Nat) (x y : BitVec 64) : BitVec 64 :=
  if fn = 900001 then x * y else if fn = 900002 then divS x y else if fn = 900003 then x - y * divS x y else if fn = 900004 then divU x y else x - y * divU x y
def s_short (args : List AV) : Option AV :=
  match args with
  | [.c .nilf, .c (.b _), .c (.u _), .c (.u _)] => some (.c (.u 0#64))
  | [.c (.f fn []), .c (.b pl), .c (.u a), .c (.u b)] =>
    if fn = 900001 ∨ fn = 900002 ∨ fn = 900003 ∨ fn = 900004 ∨ fn = 900005 then some (.c (.u (signU (opF fn (ofF pl a) (ofF pl b)) 32))) else none
  | _ => none
theorem s_short_nil {pl : Bool} {a b : BitVec 64} : s_short [.c .nilf, .c (.b pl), .c (.u a), .c (.u b)] = some (.c (.u 0#64)) := rfl
theorem s_short_mul {pl : Bool} {a b : BitVec 64} : s_short [.c (.f 900001 []), .c (.b pl), .c (.u a), .c (.u b)] = some (.c (.u (signU (ofF pl a * ofF pl b) 32))) := rfl
theorem s_short_div {pl : Bool} {a b : BitVec 64} : s_short [.c (.f 900002 []), .c (.b pl), .c (.u a), .c (.u b)] = some (.c (.u (signU (divS (ofF pl a) (ofF pl b)) 32))) := rfl
theorem s_short_rem {pl : Bool} {a b : BitVec 64} : s_short [.c (.f 900003 []), .c (.b pl), .c (.u a), .c (.u b)] = some (.c (.u (signU (ofF pl a - ofF pl b * divS (ofF pl a) (ofF pl b)) 32))) := rfl
theorem s_short_divPlain {pl : Bool} {a b : BitVec 64} : s_short [.c (.f 900004 []), .c (.b pl), .c (.u a), .c (.u b)] = some (.c (.u (signU (divU (ofF pl a) (ofF pl b)) 32))) := rfl
theorem s_short_remPlain {pl : Bool} {a b : BitVec 64} : s_short [.c (.f 900005 []), .c (.b pl), .c (.u a), .c (.u b)] = some (.c (.u (signU (ofF pl a - ofF pl b * divU (ofF pl a) (ofF pl b)) 32))) := rfl

def s_rhalf (args : List AV) : Option AV :=
  match args with
  | [.c (.u a), .c (.b pl)] => some (.c (.u (ofF pl a)))
  | _ => none
theorem s_rhalf_eq {a pl} : s_rhalf [.c (.u a), .c (.b pl)] = some (.c (.u (ofF pl a))) := rfl
set_option maxRecDepth 100000 in
set_option maxHeartbeats 2000000 in
theorem ok_rhalf : PuOk Try.prog 73 s_rhalf := by
  refine pu_ok (tab := [(24, .pu s_rsign)]) hmix (TabOk.cons (e := .pu s_rsign) ok_rsign TabOk.nil) Try.func73 rfl Try.results73 Try.ntmps73 (by kernel_rfl) (by kernel_rfl) ?_
  intro args v h
  unfold s_rhalf at h
  split at h
  · rename_i a pl
    simp only [Option.some.injEq] at h; subst h
    refine ⟨by simp only [List.length_cons, List.length_nil]; decide, rfl, rfl, ?_⟩
    have i1 : inR 32 := ⟨by omega, by omega⟩
    have e : a % 4294967296#64 = lowU a 32 := by
      refine ofG_ext fun i hi => ?_
      have e1 : (a % 4294967296#64).getLsbD i = (a.toNat % 2 ^ 32).testBit i := by
        have : (a % 4294967296#64).toNat = a.toNat % 2 ^ 32 := by rw [BitVec.toNat_umod]; rfl
        rw [← this]; rfl
      rw [e1, Nat.testBit_mod_two_pow]
      have : decide (i < 32) = decide ((i : Int) < 32) := decide_eq_decide.2 (by omega)
      rw [this]; rfl
    cases pl
    · simp (config := { maxSteps := 10000000 }) only [go_sem, seval, s_rsign_eq, i1, ofF]
    · simp (config := { maxSteps := 10000000 }) only [go_sem, seval, s_rsign_eq, e, ofF]
  · simp at h


end
end Go.Proofs.Ytflcjnekmjdckaa
