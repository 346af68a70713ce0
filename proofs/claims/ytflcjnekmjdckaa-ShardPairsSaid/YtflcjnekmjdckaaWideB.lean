/- Contracts of the functions of layer 2's reference: what each returns, for every input. -/
import Derived.Test.YtflcjnekmjdckaaBit
import Derived.Test.YtflcjnekmjdckaaWideA
namespace Go.Proofs.Ytflcjnekmjdckaa
open Go.Am
set_option linter.unusedSimpArgs false
set_option linter.unusedVariables false
noncomputable section

def belowU (a : BitVec 64) : Bool := decide (bitU a 63 = 1#64)
def s_below (args : List AV) : Option AV :=
  match args with
  | [.c (.u a)] => some (.c (.b (belowU a)))
  | _ => none
theorem s_below_eq {a} : s_below [.c (.u a)] = some (.c (.b (belowU a))) := rfl
set_option maxRecDepth 100000 in
set_option maxHeartbeats 2000000 in
theorem ok_below : PuOk Try.prog 86 s_below := by
  refine pu_ok (tab := [(50, .pu s_bit)]) hmix (TabOk.cons (e := .pu s_bit) ok_bit TabOk.nil) Try.func86 rfl Try.results86 Try.ntmps86 (by kernel_rfl) (by kernel_rfl) ?_
  intro args v h
  unfold s_below at h
  split at h
  · rename_i a
    simp only [Option.some.injEq] at h; subst h
    refine ⟨by simp only [List.length_cons, List.length_nil]; decide, rfl, rfl, ?_⟩
    simp (config := { maxSteps := 10000000 }) only [go_sem, seval, s_bit_eq]
    rfl
  · simp at h

def amountU (a : BitVec 64) : BitVec 64 := if belowU a = true then 0#64 - a else a
def s_amount (args : List AV) : Option AV :=
  match args with
  | [.c (.u a)] => some (.c (.u (amountU a)))
  | _ => none
theorem s_amount_eq {a} : s_amount [.c (.u a)] = some (.c (.u (amountU a))) := rfl
set_option maxRecDepth 100000 in
set_option maxHeartbeats 2000000 in
theorem ok_amount : PuOk Try.prog 88 s_amount := by
  refine pu_ok (tab := [(86, .pu s_below)]) hmix (TabOk.cons (e := .pu s_below) ok_below TabOk.nil) Try.func88 rfl Try.results88 Try.ntmps88 (by kernel_rfl) (by kernel_rfl) ?_
  intro args v h
  unfold s_amount at h
  split at h
  · rename_i a
    simp only [Option.some.injEq] at h; subst h
    refine ⟨by simp only [List.length_cons, List.length_nil]; decide, rfl, rfl, ?_⟩
    by_cases h : belowU a = true
    · simp (config := { maxSteps := 10000000 }) only [go_sem, seval, s_below_eq, amountU, h]
    · simp (config := { maxSteps := 10000000 }) only [go_sem, seval, s_below_eq, amountU, h]
  · simp at h

/-- the bit of two words that the division takes behind k ones -/
def ovBit (hi lo : BitVec 64) (k : Nat) : BitVec 64 := if (63 : Int) < 127 - k then bitU hi (127 - k - 64) else bitU lo (127 - k)
/-- what is left behind k bits -/
def ovR (hi lo b : BitVec 64) : Nat → BitVec 64
  | 0 => 0#64
  | k + 1 =>
    if (9223372036854775807#64 < ovR hi lo b k ∨ 2#64 * ovR hi lo b k + ovBit hi lo k < 2#64 * ovR hi lo b k) ∨ b ≤ 2#64 * ovR hi lo b k + ovBit hi lo k then 2#64 * ovR hi lo b k + ovBit hi lo k - b
    else 2#64 * ovR hi lo b k + ovBit hi lo k
def ovQ (hi lo b : BitVec 64) (k : Nat) : BitVec 64 :=
  if (9223372036854775807#64 < ovR hi lo b k ∨ 2#64 * ovR hi lo b k + ovBit hi lo k < 2#64 * ovR hi lo b k) ∨ b ≤ 2#64 * ovR hi lo b k + ovBit hi lo k then 1#64 else 0#64
def ovL (hi lo b : BitVec 64) (k : Nat) : List Sc := (List.range k).map fun j => .u (ovQ hi lo b j)
def ovQh (hi lo b : BitVec 64) (at' : Nat) : Nat → BitVec 64
  | 0 => 0#64
  | k + 1 => 2#64 * ovQh hi lo b at' k + ovQ hi lo b (at' + k)
theorem ovL_len {hi lo b : BitVec 64} {k : Nat} : (ovL hi lo b k).length = k := by simp [ovL]
theorem ovL_succ {hi lo b : BitVec 64} {k : Nat} : ovL hi lo b (k + 1) = ovL hi lo b k ++ [.u (ovQ hi lo b k)] := by simp [ovL, List.range_succ]
theorem ovL_get {hi lo b : BitVec 64} {k i : Nat} (h : i < k) : (ovL hi lo b k)[i]? = some (.u (ovQ hi lo b i)) := by simp [ovL, h]

def s_refOver (args : List AV) : Option AV :=
  match args with
  | [.c (.u hi), .c (.u lo), .c (.u b)] => some (.t [.c (.u (ovQh hi lo b 0 64)), .c (.u (ovQh hi lo b 64 64)), .c (.u (ovR hi lo b 128))])
  | _ => none
theorem s_refOver_eq {hi lo b} : s_refOver [.c (.u hi), .c (.u lo), .c (.u b)] = some (.t [.c (.u (ovQh hi lo b 0 64)), .c (.u (ovQh hi lo b 64 64)), .c (.u (ovR hi lo b 128))]) := rfl
set_option maxRecDepth 100000 in
set_option maxHeartbeats 2000000 in
theorem ok_refOver : PuOk Try.prog 87 s_refOver := by
  refine pu_ok (tab := [(50, .pu s_bit)]) hmix (TabOk.cons (e := .pu s_bit) ok_bit TabOk.nil) Try.func87 rfl Try.results87 Try.ntmps87 (by kernel_rfl) (by kernel_rfl) ?_
  intro args v h
  unfold s_refOver at h
  split at h
  · rename_i hi lo b
    simp only [Option.some.injEq] at h; subst h
    refine ⟨by simp only [List.length_cons, List.length_nil]; decide, rfl, rfl, ?_⟩
    simp (config := { maxSteps := 10000000 }) only [go_sem, seval, s_bit_eq]
    rw [arun_loop]
    refine ⟨{k : Nat // k ≤ 128}, fun k => ([(0, .c (.u hi)), (1, .c (.u lo)), (2, .c (.u b)), (9, .c (.sl 0 0 k.1 k.1)), (10, .c (.u (ovR hi lo b k.1))), (11, .c (.i (127 - k.1)))], [.vec 1 (ovL hi lo b k.1)]), fun k => 128 - k.1, ⟨0, by omega⟩, ?_, ?_⟩
    · exact Wk.trans (Wk.nil 9 1 (by decide) rfl (Nat.zero_le _)) (Wk.wk (Nat.zero_le _) (by simp [Am.get, ovR]) rfl ⟨.inr rfl, trivial⟩ rfl)
    · rintro ⟨k, hk⟩
      by_cases hlt : k < 128
      · have e1 : w64 (127 - (k : Int) - 1) = 127 - ((k + 1 : Nat) : Int) := by rw [w64_of (by omega)]; omega
        have e2 : ((0 : Int) ≤ 127 - (k : Int)) = True := by simp; omega
        have e3 : w64 (127 - (k : Int) - 64) = 127 - k - 64 := w64_of (by omega)
        have e4 : ((k : Nat) + 1) * 8 ≤ 1099511627776 := by omega
        have hb : ovBit hi lo k = if (63 : Int) < 127 - k then bitU hi (127 - k - 64) else bitU lo (127 - k) := rfl
        have hr := ovR.eq_2 hi lo b k
        have hq := ovQ.eq_1 hi lo b k
        generalize hB : ovBit hi lo k = B at hb hr hq
        have hc : 9223372036854775807#64 < ovR hi lo b k ∨ (¬ 9223372036854775807#64 < ovR hi lo b k ∧ 2#64 * ovR hi lo b k + B < 2#64 * ovR hi lo b k) ∨ (¬ 9223372036854775807#64 < ovR hi lo b k ∧ ¬ 2#64 * ovR hi lo b k + B < 2#64 * ovR hi lo b k ∧ b ≤ 2#64 * ovR hi lo b k + B) ∨ (¬ 9223372036854775807#64 < ovR hi lo b k ∧ ¬ 2#64 * ovR hi lo b k + B < 2#64 * ovR hi lo b k ∧ ¬ b ≤ 2#64 * ovR hi lo b k + B) := by
          by_cases h2 : 9223372036854775807#64 < ovR hi lo b k
          · exact .inl h2
          · by_cases h3 : 2#64 * ovR hi lo b k + B < 2#64 * ovR hi lo b k
            · exact .inr (.inl ⟨h2, h3⟩)
            · by_cases h4 : b ≤ 2#64 * ovR hi lo b k + B
              · exact .inr (.inr (.inl ⟨h2, h3, h4⟩))
              · exact .inr (.inr (.inr ⟨h2, h3, h4⟩))
        clear hB
        by_cases h1 : (63 : Int) < 127 - k
        all_goals rcases hc with h2 | ⟨h2, h3⟩ | ⟨h2, h3, h4⟩ | ⟨h2, h3, h4⟩
        all_goals simp only [h1, if_true, if_false] at hb
        all_goals replace hb := hb.symm
        all_goals simp only [*, if_true, if_false, or_true, true_or, or_false, false_or] at hr hq
        all_goals simp (config := { maxSteps := 10000000 }) only [go_sem, seval, s_bit_eq, *, ovL_len]
        all_goals exact ⟨⟨k + 1, by omega⟩, by simp; omega, Wk.wk (Nat.zero_le _) (by simp [Am.get, hr, e1]) rfl ⟨.inr (by simp [ovL_succ, hq]), trivial⟩ (by simp [AObj.cells, AObj.scs, ovL, Sc.bel])⟩
      · obtain rfl : k = 128 := by omega
        have e0 : ((0 : Int) ≤ 127 - 128) = False := by simp
        simp (config := { maxSteps := 10000000 }) only [go_sem, seval, s_bit_eq, e0]
        rw [arun_loop]
        refine ⟨{k : Nat // k ≤ 64}, fun k => ([(9, .c (.sl 0 0 128 128)), (10, .c (.u (ovR hi lo b 128))), (15, .c (.u (ovQh hi lo b 0 k.1))), (16, .c (.u (ovQh hi lo b 64 k.1))), (17, .c (.i k.1))], [.vec 1 (ovL hi lo b 128)]), fun k => 64 - k.1, ⟨0, by omega⟩, ?_, ?_⟩
        · exact Wk.wk (Nat.zero_le _) (by simp [Am.get, ovQh]) rfl ⟨.inr rfl, trivial⟩ rfl
        · rintro ⟨k, hk⟩
          by_cases hlt : k < 64
          · have e1 : w64 ((k : Int) + 1) = ((k + 1 : Nat) : Int) := by rw [w64_of (by omega)]; omega
            have e2 : ((k : Int) < 64) = True := by simp; omega
            have e3 : w64 (64 + (k : Int)) = ((64 + k : Nat) : Int) := by rw [w64_of (by omega)]; omega
            have e4 : ((k : Int) < 128) = True := by simp; omega
            have e5 : (((64 + k : Nat) : Int) < 128) = True := by simp; omega
            have e6 : (0 ≤ (k : Int)) = True := by simp
            have e7 : (0 ≤ ((64 + k : Nat) : Int)) = True := by simp; omega
            have e8 : (k + 1 ≤ 128) = True := by simp; omega
            have e9 : (64 + k + 1 ≤ 128) = True := by simp; omega
            have g1 : (ovL hi lo b 128).getD k .any = .u (ovQ hi lo b k) := by rw [List.getD_eq_getElem?_getD, ovL_get (by omega)]; rfl
            have g2 : (ovL hi lo b 128).getD (64 + k) .any = .u (ovQ hi lo b (64 + k)) := by rw [List.getD_eq_getElem?_getD, ovL_get (by omega)]; rfl
            simp (config := { maxSteps := 10000000 }) only [go_sem, seval, e1, e2, e3, e4, e5, e6, e7, e8, e9, g1, g2, ovL_len]
            exact ⟨⟨k + 1, by omega⟩, by simp; omega, Wk.wk (Nat.zero_le _) (by simp [Am.get, ovQh]) rfl ⟨.inr rfl, trivial⟩ (by simp [AObj.cells, AObj.scs, ovL, Sc.bel])⟩
          · obtain rfl : k = 64 := by omega
            have e2 : ((64 : Int) < 64) = False := by simp
            simp (config := { maxSteps := 10000000 }) only [go_sem, seval, e2]
  · simp at h

end
end Go.Proofs.Ytflcjnekmjdckaa
