/- The reference's bits: what 'Bit' returns, for every input. -/
import Derived.Test.YtanblagbkhpolaaTy
namespace Go.Proofs.Ytanblagbkhpolaa
open Go.Am
set_option linter.unusedSimpArgs false
set_option linter.unusedVariables false
noncomputable section

/-- a word's bit -/
def bitU (w : BitVec 64) (i : Int) : BitVec 64 := if 0 ≤ i ∧ i ≤ 63 then (if w.getLsbD i.toNat then 1#64 else 0#64) else 0#64

theorem shr_mod (w : BitVec 64) (n : Nat) : (w >>> n) % 2#64 = if w.getLsbD n then 1#64 else 0#64 := by
  apply BitVec.eq_of_toNat_eq
  have h : w.getLsbD n = decide (w.toNat / 2 ^ n % 2 = 1) := by
    simp only [BitVec.getLsbD, Nat.testBit_eq_decide_div_mod_eq]
  have h2 : w.toNat / 2 ^ n % 2 < 2 := Nat.mod_lt _ (by omega)
  simp only [BitVec.toNat_umod, BitVec.toNat_ushiftRight, Nat.shiftRight_eq_div_pow, h, BitVec.toNat_ofNat]
  by_cases hb : w.toNat / 2 ^ n % 2 = 1
  · simp [hb]
  · have h0 : w.toNat / 2 ^ n % 2 = 0 := by omega
    simp [h0]
theorem shr_succ (w : BitVec 64) (n : Nat) : (w >>> n) / 2#64 = w >>> (n + 1) := by
  apply BitVec.eq_of_toNat_eq
  have h2 : (2#64).toNat = 2 := rfl
  simp only [BitVec.toNat_udiv, BitVec.toNat_ushiftRight, Nat.shiftRight_eq_div_pow, h2]
  rw [Nat.div_div_eq_div_mul, ← Nat.pow_succ]

def s_bit (args : List AV) : Option AV :=
  match args with
  | [.c (.u w), .c (.i m)] => some (.c (.u (bitU w m)))
  | _ => none
theorem s_bit_eq {w m} : s_bit [.c (.u w), .c (.i m)] = some (.c (.u (bitU w m))) := rfl
set_option maxRecDepth 100000 in
set_option maxHeartbeats 2000000 in
theorem ok_bit : PuOk Try.prog 54 s_bit := by
  refine pu_ok (tab := []) hmix TabOk.nil Try.func54 rfl Try.results54 Try.ntmps54 (by kernel_rfl) (by kernel_rfl) ?_
  intro args v h
  unfold s_bit at h
  split at h
  · rename_i w m
    simp only [Option.some.injEq] at h; subst h
    refine ⟨by simp only [List.length_cons, List.length_nil]; decide, rfl, rfl, ?_⟩
    by_cases h1 : m < 0
    · have e : bitU w m = 0#64 := by unfold bitU; rw [if_neg (by omega)]
      simp (config := { maxSteps := 10000000 }) only [go_sem, seval, h1, e]
    · by_cases h2 : 63 < m
      · have e : bitU w m = 0#64 := by unfold bitU; rw [if_neg (by omega)]
        simp (config := { maxSteps := 10000000 }) only [go_sem, seval, h1, h2, e]
      · obtain ⟨n, rfl⟩ := Int.eq_ofNat_of_zero_le (by omega : 0 ≤ m)
        have e : bitU w n = (w >>> n) % 2#64 := by unfold bitU; rw [if_pos (by omega), shr_mod]; rfl
        rw [e]
        simp (config := { maxSteps := 10000000 }) only [go_sem, seval, h1, h2]
        rw [arun_loop]
        refine ⟨{k : Nat // k ≤ n}, fun k => ([(0, .c (.u (w >>> k.1))), (1, .c (.i n)), (5, .c (.i k.1))], []), fun k => n - k.1, ⟨0, by omega⟩, ?_, ?_⟩
        · exact Wk.drop (by simp [Am.get]) rfl rfl rfl
        · rintro ⟨k, hk⟩
          by_cases hlt : k < n
          · have e1 : w64 ((k : Int) + 1) = ((k + 1 : Nat) : Int) := by rw [w64_of (by omega)]; omega
            have e2 : ((k : Int) < (n : Int)) = True := by simp; omega
            simp (config := { maxSteps := 10000000 }) only [go_sem, seval, e1, e2]
            exact ⟨⟨k + 1, by omega⟩, by simp; omega, Wk.drop (by simp [Am.get, shr_succ]) rfl rfl rfl⟩
          · obtain rfl : k = n := by omega
            have e2 : ((k : Int) < (k : Int)) = False := by simp
            simp (config := { maxSteps := 10000000 }) only [go_sem, seval, e2]
  · simp at h

end
end Go.Proofs.Ytanblagbkhpolaa
