/- Layer 2's ops of the lowest 32 bits. -/
import Derived.Test.YtjlbgjhnhhihoaaWideU
import Derived.Test.YtjlbgjhnhhihoaaR2
import Derived.Test.YtjlbgjhnhhihoaaB2
namespace Go.Proofs.Ytjlbgjhnhhihoaa
open Go.Am
set_option linter.unusedSimpArgs false
set_option linter.unusedVariables false
noncomputable section

def s_short1 (args : List AV) : Option AV :=
  match args with
  | [.c (.u w)] => some (.c (.u (lowU w 32)))
  | _ => none
theorem s_short1_eq {w} : s_short1 [.c (.u w)] = some (.c (.u (lowU w 32))) := rfl
set_option maxRecDepth 100000 in
set_option maxHeartbeats 2000000 in
theorem ok_short1 : PuOk Try.prog 80 s_short1 := by
  refine pu_ok (tab := [(16, .pu s_low)]) hmix (TabOk.cons (e := .pu s_low) ok_low TabOk.nil) Try.func80 rfl Try.results80 Try.ntmps80 (by kernel_rfl) (by kernel_rfl) ?_
  intro args v h
  unfold s_short1 at h
  split at h
  · rename_i w
    simp only [Option.some.injEq] at h; subst h
    refine ⟨by simp only [List.length_cons, List.length_nil]; decide, rfl, rfl, ?_⟩
    have i1 : inR 32 := ⟨by omega, by omega⟩
    simp (config := { maxSteps := 10000000 }) only [go_sem, List.reduceReplicate, BitVec.reduceOfInt, BitVec.reduceToNat, BitVec.reduceToInt, BitVec.reduceEq, BitVec.reduceLT, BitVec.reduceLE, BitVec.reduceAdd, BitVec.reduceSub, BitVec.reduceMul, BitVec.reduceUDiv, BitVec.reduceUMod, BitVec.reduceAnd, BitVec.reduceOr, BitVec.reduceXOr, BitVec.reduceNot, BitVec.reduceNeg, BitVec.reduceHShiftLeft, BitVec.reduceHShiftRight, Nat.reduceAdd, Nat.reduceMul, Nat.reduceSub, Nat.reduceBEq, Nat.reduceEqDiff, Nat.reduceLeDiff, Nat.reduceLT, Int.reduceLE, Int.reduceLT, Int.reduceAdd, Int.reduceSub, Int.reduceMul, Int.reduceNeg, Int.reduceToNat, Int.reduceEq, ↓reduceIte, reduceCtorEq, s_low_eq, i1]
  · simp at h
def ofF (pl : Bool) (a : BitVec 64) : BitVec 64 := if pl = true then lowU a 32 else signU a 32
def opF (fn : Nat) (x y : BitVec 64) : BitVec 64 :=
  if fn = 57 then x * y else if fn = 61 then divS x y else if fn = 63 then x - y * divS x y else if fn = 62 then divU x y else x - y * divU x y
def s_short (args : List AV) : Option AV :=
  match args with
  | [.c .nilf, .c (.b _), .c (.u _), .c (.u _)] => some (.c (.u 0#64))
  | [.c (.f fn []), .c (.b pl), .c (.u a), .c (.u b)] =>
    if fn = 57 ∨ fn = 61 ∨ fn = 63 ∨ fn = 62 ∨ fn = 64 then some (.c (.u (signU (opF fn (ofF pl a) (ofF pl b)) 32))) else none
  | _ => none
theorem s_short_nil {pl : Bool} {a b : BitVec 64} : s_short [.c .nilf, .c (.b pl), .c (.u a), .c (.u b)] = some (.c (.u 0#64)) := rfl
theorem s_short_mul {pl : Bool} {a b : BitVec 64} : s_short [.c (.f 57 []), .c (.b pl), .c (.u a), .c (.u b)] = some (.c (.u (signU (ofF pl a * ofF pl b) 32))) := rfl
theorem s_short_div {pl : Bool} {a b : BitVec 64} : s_short [.c (.f 61 []), .c (.b pl), .c (.u a), .c (.u b)] = some (.c (.u (signU (divS (ofF pl a) (ofF pl b)) 32))) := rfl
theorem s_short_rem {pl : Bool} {a b : BitVec 64} : s_short [.c (.f 63 []), .c (.b pl), .c (.u a), .c (.u b)] = some (.c (.u (signU (ofF pl a - ofF pl b * divS (ofF pl a) (ofF pl b)) 32))) := rfl
theorem s_short_divPlain {pl : Bool} {a b : BitVec 64} : s_short [.c (.f 62 []), .c (.b pl), .c (.u a), .c (.u b)] = some (.c (.u (signU (divU (ofF pl a) (ofF pl b)) 32))) := rfl
theorem s_short_remPlain {pl : Bool} {a b : BitVec 64} : s_short [.c (.f 64 []), .c (.b pl), .c (.u a), .c (.u b)] = some (.c (.u (signU (ofF pl a - ofF pl b * divU (ofF pl a) (ofF pl b)) 32))) := rfl
set_option maxRecDepth 100000 in
set_option maxHeartbeats 2000000 in
theorem ok_short : PuOk Try.prog 65 s_short := by
  refine pu_ok (tab := [(66, .pu s_word32), (80, .pu s_short1), (57, .pu s_mul), (61, .pu s_div), (63, .pu s_rem), (62, .pu s_divPlain), (64, .pu s_remPlain)]) hmix
    (TabOk.cons (e := .pu s_word32) ok_word32 (TabOk.cons (e := .pu s_short1) ok_short1 (TabOk.cons (e := .pu s_mul) ok_mul (TabOk.cons (e := .pu s_div) ok_div (TabOk.cons (e := .pu s_rem) ok_rem (TabOk.cons (e := .pu s_divPlain) ok_divPlain (TabOk.cons (e := .pu s_remPlain) ok_remPlain TabOk.nil)))))))
    Try.func65 rfl Try.results65 Try.ntmps65 (by kernel_rfl) (by kernel_rfl) ?_
  intro args v h
  unfold s_short at h
  split at h
  · simp only [Option.some.injEq] at h; subst h
    refine ⟨by simp only [List.length_cons, List.length_nil]; decide, rfl, rfl, ?_⟩
    simp (config := { maxSteps := 10000000 }) only [go_sem, List.reduceReplicate, BitVec.reduceOfInt, BitVec.reduceToNat, BitVec.reduceToInt, BitVec.reduceEq, BitVec.reduceLT, BitVec.reduceLE, BitVec.reduceAdd, BitVec.reduceSub, BitVec.reduceMul, BitVec.reduceUDiv, BitVec.reduceUMod, BitVec.reduceAnd, BitVec.reduceOr, BitVec.reduceXOr, BitVec.reduceNot, BitVec.reduceNeg, BitVec.reduceHShiftLeft, BitVec.reduceHShiftRight, Nat.reduceAdd, Nat.reduceMul, Nat.reduceSub, Nat.reduceBEq, Nat.reduceEqDiff, Nat.reduceLeDiff, Nat.reduceLT, Int.reduceLE, Int.reduceLT, Int.reduceAdd, Int.reduceSub, Int.reduceMul, Int.reduceNeg, Int.reduceToNat, Int.reduceEq, ↓reduceIte, reduceCtorEq]
  · rename_i fn pl a b
    split at h
    · rename_i hc
      simp only [Option.some.injEq] at h; subst h
      refine ⟨by simp only [List.length_cons, List.length_nil]; decide, rfl, rfl, ?_⟩
      rcases hc with rfl | rfl | rfl | rfl | rfl
      all_goals cases pl
      all_goals simp (config := { maxSteps := 10000000 }) only [go_sem, List.reduceReplicate, BitVec.reduceOfInt, BitVec.reduceToNat, BitVec.reduceToInt, BitVec.reduceEq, BitVec.reduceLT, BitVec.reduceLE, BitVec.reduceAdd, BitVec.reduceSub, BitVec.reduceMul, BitVec.reduceUDiv, BitVec.reduceUMod, BitVec.reduceAnd, BitVec.reduceOr, BitVec.reduceXOr, BitVec.reduceNot, BitVec.reduceNeg, BitVec.reduceHShiftLeft, BitVec.reduceHShiftRight, Nat.reduceAdd, Nat.reduceMul, Nat.reduceSub, Nat.reduceBEq, Nat.reduceEqDiff, Nat.reduceLeDiff, Nat.reduceLT, Int.reduceLE, Int.reduceLT, Int.reduceAdd, Int.reduceSub, Int.reduceMul, Int.reduceNeg, Int.reduceToNat, Int.reduceEq, ↓reduceIte, reduceCtorEq, s_word32_eq, s_short1_eq, s_mul_eq, s_div_eq, s_rem_eq, s_divPlain_eq, s_remPlain_eq, ofF, opF]
    · simp at h
  · simp at h



end
end Go.Proofs.Ytjlbgjhnhhihoaa
