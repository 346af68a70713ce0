/- Contracts of layer 1's reference: parts of words. -/
import Derived.Test.YtflcjnekmjdckaaGreatR1
namespace Go.Proofs.YtflcjnekmjdckaaGreat
open Go.Am
set_option linter.unusedSimpArgs false
set_option linter.unusedVariables false
noncomputable section

theorem wk_len {n : Nat} : 0 ≤ n := Nat.zero_le n

def putG (w : BitVec 64) (a s : Int) (n : BitVec 64) (i : Nat) : Bool := if inP a s i = true then bitB n (i - a) else w.getLsbD i
theorem inK_bit {n : BitVec 64} {a s : Int} {k : Nat} (h : inP a s k = true) : bitU n (inK a s k) = b2 (bitB n (k - a)) := by
  have h : a ≤ (k : Int) ∧ (k : Int) < a + s := by simpa [inP] using h
  rw [bitU_B, inK, if_pos h]
  by_cases h2 : (k : Int) - a ≤ 1000
  · rw [Int.min_eq_left h2]
  · rw [bitB_out (by omega), bitB_out (by omega)]
theorem bitU_n {w : BitVec 64} {k : Nat} : bitU w k = b2 (w.getLsbD k) := by rw [bitU_B, bitB_n]

def cutG (w : BitVec 64) (a s : Int) (k : Nat) : Bool := decide ((k : Int) < s) && bitB w (a + k)
/-- the bit that a part's bit number k is, among the lowest i ones of a word -/
def cutN (w : BitVec 64) (a : Int) (k i : Nat) : BitVec 64 := b2 (decide (a + k < (i : Int)) && bitB w (a + k))
theorem cutN_64 {w : BitVec 64} {a : Int} {k : Nat} : cutN w a k 64 = b2 (bitB w (a + k)) := by
  unfold cutN
  by_cases h : a + (k : Int) < 64
  · have : a + (k : Int) < ((64 : Nat) : Int) := by omega
    rw [decide_eq_true this, Bool.true_and]
  · rw [bitB_out (by omega)]; simp
theorem cutN_hit {w : BitVec 64} {a s : Int} {k i : Nat} (h : inP a s i = true) (hk : inK a s i = k) (h6 : k < 64) : cutN w a k (i + 1) = b2 (w.getLsbD i) := by
  have h : a ≤ (i : Int) ∧ (i : Int) < a + s := by simpa [inP] using h
  rw [inK, if_pos h] at hk
  have e : a + (k : Int) = (i : Int) := by omega
  unfold cutN
  rw [e, bitB_n]
  have : (i : Int) < ((i + 1 : Nat) : Int) := by omega
  rw [decide_eq_true this, Bool.true_and]
theorem cutN_miss {w : BitVec 64} {a s : Int} {k i : Nat} (hs : (k : Int) < s) (h6 : k < 64) (h : inP a s i = false ∨ inK a s i ≠ k) : cutN w a k (i + 1) = cutN w a k i := by
  have hne : a + (k : Int) ≠ (i : Int) := by
    intro e
    have hp : inP a s i = true := by unfold inP; exact decide_eq_true (by omega)
    rcases h with h | h
    · rw [hp] at h; simp at h
    · apply h
      rw [inK, if_pos (by omega)]; omega
  unfold cutN
  have : decide (a + (k : Int) < ((i + 1 : Nat) : Int)) = decide (a + (k : Int) < (i : Int)) := decide_eq_decide.2 (by omega)
  rw [this]

def signG (w : BitVec 64) (s : Int) (i : Nat) : Bool := decide (1 ≤ s) && (if (i : Int) < s then w.getLsbD i else bitB w (s - 1))

end
end Go.Proofs.YtflcjnekmjdckaaGreat
