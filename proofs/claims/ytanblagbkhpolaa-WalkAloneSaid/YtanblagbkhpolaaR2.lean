/- Contracts of layer 1's reference: parts of words. -/
import Derived.Test.YtanblagbkhpolaaR1
namespace Go.Proofs.Ytanblagbkhpolaa
open Go.Am
set_option linter.unusedSimpArgs false
set_option linter.unusedVariables false
noncomputable section

theorem wk_len {n : Nat} : 0 ≤ n := Nat.zero_le n

def putG (w : BitVec 64) (a s : Int) (n : BitVec 64) (i : Nat) : Bool := if inP a s i = true then bitB n (i - a) else w.getLsbD i
theorem inK_bit {n : BitVec 64} {a s : Int} {k : Nat} (h : inP a s k = true) : bitU n (inK a s k) = b2 (bitB n (k - a)) := by
  have h : a ≤ (k : Int) ∧ (k : Int) < a + s := by simpa [inP] using h
  rw [bitU_B, inK, if_pos h]
  by_cases h2 : (k : Int) - a ≤ 1000
  · rw [Int.min_eq_left h2]
  · rw [bitB_out (by omega), bitB_out (by omega)]
theorem bitU_n {w : BitVec 64} {k : Nat} : bitU w k = b2 (w.getLsbD k) := by rw [bitU_B, bitB_n]
def s_rput (args : List AV) : Option AV :=
  match args with
  | [.c (.u w), .c (.i a), .c (.i s), .c (.u n)] => if inR a ∧ inR s then some (.c (.u (putU w a s n))) else none
  | _ => none
theorem s_rput_eq {w a s n} : s_rput [.c (.u w), .c (.i a), .c (.i s), .c (.u n)] = if inR a ∧ inR s then some (.c (.u (putU w a s n))) else none := rfl
set_option maxRecDepth 100000 in
set_option maxHeartbeats 2000000 in
theorem ok_rput : PuOk Try.prog 59 s_rput := by
  refine pu_ok (tab := [(80, .pu s_rin), (81, .fq s_of), (54, .pu s_bit)]) hmix (TabOk.cons (e := .pu s_rin) ok_rin (TabOk.cons (e := .fq s_of) ok_of (TabOk.cons (e := .pu s_bit) ok_bit TabOk.nil))) Try.func59 rfl Try.results59 Try.ntmps59 (by kernel_rfl) (by kernel_rfl) ?_
  intro args v h
  unfold s_rput at h
  split at h
  · rename_i w a s n
    split at h
    · rename_i hc
      simp only [Option.some.injEq] at h; subst h
      refine ⟨by simp only [List.length_cons, List.length_nil]; decide, rfl, rfl, ?_⟩
      obtain ⟨ia, is⟩ := hc
      simp (config := { maxSteps := 10000000 }) only [go_sem, seval, s_rin_eq, s_of_eq, s_bit_eq]
      rw [arun_loop]
      refine ⟨{k : Nat // k ≤ 64}, fun k => ([(0, .c (.u w)), (1, .c (.i a)), (2, .c (.i s)), (3, .c (.u n)), (9, .c (.sl 0 0 k.1 k.1)), (10, .c (.i k.1))], [.vec 1 (lst (putG w a s n) k.1)]), fun k => 64 - k.1, ⟨0, by omega⟩, ?_, ?_⟩
      · exact Wk.trans (Wk.nil 9 1 (by decide) rfl (Nat.zero_le _)) (Wk.wk (Nat.zero_le _) (by simp [Am.get]) rfl ⟨.inr rfl, trivial⟩ rfl)
      · rintro ⟨k, hk⟩
        by_cases hlt : k < 64
        · have e1 : w64 ((k : Int) + 1) = ((k + 1 : Nat) : Int) := by rw [w64_of (by omega)]; omega
          have e2 : ((k : Int) < 64) = True := by simp; omega
          have e3 : (0 ≤ (k : Int)) = True := by simp
          have e4 : ((k : Int) ≤ 63) = True := by simp; omega
          have e5 : (k + 1) * 8 ≤ 1099511627776 := by omega
          cases hb : inP a s k
          all_goals have hb' : inB a s k = inP a s k := rfl
          all_goals have hg : putG w a s n k = if inP a s k = true then bitB n (k - a) else w.getLsbD k := rfl
          all_goals rw [hb] at hb' hg
          · simp (config := { maxSteps := 10000000 }) only [go_sem, seval, s_rin_eq, s_of_eq, s_bit_eq, e1, e2, e3, e4, e5, ia, is, hb', lst_len, bitU_n]
            exact ⟨⟨k + 1, by omega⟩, by simp; omega, Wk.wk (Nat.zero_le _) (by simp [Am.get]) rfl ⟨.inr (by simp [lst_succ, hg]), trivial⟩ (by simp [AObj.cells, AObj.scs, lst_bel])⟩
          · simp (config := { maxSteps := 10000000 }) only [go_sem, seval, s_rin_eq, s_of_eq, s_bit_eq, e1, e2, e3, e4, e5, ia, is, hb', lst_len, inK_bit hb]
            exact ⟨⟨k + 1, by omega⟩, by simp; omega, Wk.wk (Nat.zero_le _) (by simp [Am.get]) rfl ⟨.inr (by simp [lst_succ, hg]), trivial⟩ (by simp [AObj.cells, AObj.scs, lst_bel])⟩
        · obtain rfl : k = 64 := by omega
          have e2 : ((64 : Int) < 64) = False := by simp
          have e6 : ofG (putG w a s n) = putU w a s n := rfl
          simp (config := { maxSteps := 10000000 }) only [go_sem, seval, s_rin_eq, s_of_eq, s_bit_eq, e2, lst_len, lst_cells, ofW_eq, e6]
    · simp at h
  · simp at h

def cutG (w : BitVec 64) (a s : Int) (k : Nat) : Bool := decide ((k : Int) < s) && bitB w (a + k)
/-- the bit that a part's bit number k is, among the lowest i ones of a word -/
def cutN (w : BitVec 64) (a : Int) (k i : Nat) : BitVec 64 := b2 (decide (a + k < (i : Int)) && bitB w (a + k))
theorem cutN_64 {w : BitVec 64} {a : Int} {k : Nat} : cutN w a k 64 = b2 (bitB w (a + k)) := by
  unfold cutN
  by_cases h : a + (k : Int) < 64
  · have : a + (k : Int) < ((64 : Nat) : Int) := by omega
    rw [decide_eq_true this, Bool.true_and]
  · rw [bitB_out (by omega)]; simp
theorem cutN_hit {w : BitVec 64} {a s : Int} {k i : Nat} (h : inP a s i = true) (hk : inK a s i = k) (h6 : k < 64) : cutN w a k (i + 1) = b2 (w.getLsbD i) := by
  have h : a ≤ (i : Int) ∧ (i : Int) < a + s := by simpa [inP] using h
  rw [inK, if_pos h] at hk
  have e : a + (k : Int) = (i : Int) := by omega
  unfold cutN
  rw [e, bitB_n]
  have : (i : Int) < ((i + 1 : Nat) : Int) := by omega
  rw [decide_eq_true this, Bool.true_and]
theorem cutN_miss {w : BitVec 64} {a s : Int} {k i : Nat} (hs : (k : Int) < s) (h6 : k < 64) (h : inP a s i = false ∨ inK a s i ≠ k) : cutN w a k (i + 1) = cutN w a k i := by
  have hne : a + (k : Int) ≠ (i : Int) := by
    intro e
    have hp : inP a s i = true := by unfold inP; exact decide_eq_true (by omega)
    rcases h with h | h
    · rw [hp] at h; simp at h
    · apply h
      rw [inK, if_pos (by omega)]; omega
  unfold cutN
  have : decide (a + (k : Int) < ((i + 1 : Nat) : Int)) = decide (a + (k : Int) < (i : Int)) := decide_eq_decide.2 (by omega)
  rw [this]
def s_rcut (args : List AV) : Option AV :=
  match args with
  | [.c (.u w), .c (.i a), .c (.i s)] => if inR a ∧ inR s then some (.c (.u (cutU w a s))) else none
  | _ => none
theorem s_rcut_eq {w a s} : s_rcut [.c (.u w), .c (.i a), .c (.i s)] = if inR a ∧ inR s then some (.c (.u (cutU w a s))) else none := rfl
set_option maxRecDepth 100000 in
set_option maxHeartbeats 2000000 in
theorem ok_rcut : PuOk Try.prog 56 s_rcut := by
  refine pu_ok (tab := [(80, .pu s_rin), (81, .fq s_of), (54, .pu s_bit)]) hmix (TabOk.cons (e := .pu s_rin) ok_rin (TabOk.cons (e := .fq s_of) ok_of (TabOk.cons (e := .pu s_bit) ok_bit TabOk.nil))) Try.func56 rfl Try.results56 Try.ntmps56 (by kernel_rfl) (by kernel_rfl) ?_
  intro args v h
  unfold s_rcut at h
  split at h
  · rename_i w a s
    split at h
    · rename_i hc
      simp only [Option.some.injEq] at h; subst h
      refine ⟨by simp only [List.length_cons, List.length_nil]; decide, rfl, rfl, ?_⟩
      obtain ⟨ia, is⟩ := hc
      simp (config := { maxSteps := 10000000 }) only [go_sem, seval, s_rin_eq, s_of_eq, s_bit_eq]
      rw [arun_loop]
      refine ⟨{k : Nat // k ≤ 64}, fun k => ([(0, .c (.u w)), (1, .c (.i a)), (2, .c (.i s)), (7, .c (.sl 0 0 k.1 k.1)), (8, .c (.i k.1))], [.vec 1 (lst (cutG w a s) k.1)]), fun k => 64 - k.1, ⟨0, by omega⟩, ?_, ?_⟩
      · exact Wk.trans (Wk.nil 7 1 (by decide) rfl (Nat.zero_le _)) (Wk.wk (Nat.zero_le _) (by simp [Am.get]) rfl ⟨.inr rfl, trivial⟩ rfl)
      · rintro ⟨k, hk⟩
        by_cases hlt : k < 64
        · have e1 : w64 ((k : Int) + 1) = ((k + 1 : Nat) : Int) := by rw [w64_of (by omega)]; omega
          have e2 : ((k : Int) < 64) = True := by simp; omega
          have e5 : (k + 1) * 8 ≤ 1099511627776 := by omega
          have hg : cutG w a s k = (decide ((k : Int) < s) && bitB w (a + k)) := rfl
          by_cases hs : (k : Int) < s
          · simp (config := { maxSteps := 10000000 }) only [go_sem, seval, s_rin_eq, s_of_eq, s_bit_eq, e2, hs]
            rw [arun_loop]
            refine ⟨{i : Nat // i ≤ 64}, fun i => ([(0, .c (.u w)), (1, .c (.i a)), (2, .c (.i s)), (7, .c (.sl 0 0 k k)), (8, .c (.i k)), (9, .c (.u (cutN w a k i.1))), (10, .c (.i i.1))], [.vec 1 (lst (cutG w a s) k)]), fun i => 64 - i.1, ⟨0, by omega⟩, ?_, ?_⟩
            · have h0 : cutN w a k 0 = 0#64 := by
                unfold cutN
                by_cases h : a + (k : Int) < ((0 : Nat) : Int)
                · rw [bitB_out (by omega)]; simp [b2]
                · rw [decide_eq_false h]; rfl
              exact Wk.wk (Nat.zero_le _) (by simp [Am.get, h0]) rfl ⟨.inr rfl, trivial⟩ (by simp [AObj.cells, AObj.scs, lst_bel])
            · rintro ⟨i, hi⟩
              by_cases hlt2 : i < 64
              · have d1 : w64 ((i : Int) + 1) = ((i + 1 : Nat) : Int) := by rw [w64_of (by omega)]; omega
                have d2 : ((i : Int) < 64) = True := by simp; omega
                have d3 : (0 ≤ (i : Int)) = True := by simp
                have d4 : ((i : Int) ≤ 63) = True := by simp; omega
                have hbi : inB a s i = inP a s i := rfl
                cases hb : inP a s i
                · rw [hb] at hbi
                  have hm := cutN_miss (w := w) hs hlt (.inl hb)
                  simp (config := { maxSteps := 10000000 }) only [go_sem, seval, s_rin_eq, s_of_eq, s_bit_eq, d1, d2, d3, d4, ia, is, hbi]
                  exact ⟨⟨i + 1, by omega⟩, by simp; omega, Wk.wk (Nat.zero_le _) (by simp [Am.get, hm]) rfl ⟨.inr rfl, trivial⟩ (by simp [AObj.cells, AObj.scs, lst_bel])⟩
                · rw [hb] at hbi
                  by_cases hq : inK a s i = (k : Int)
                  · have hm := cutN_hit (w := w) hb hq hlt
                    simp (config := { maxSteps := 10000000 }) only [go_sem, seval, s_rin_eq, s_of_eq, s_bit_eq, d1, d2, d3, d4, ia, is, hbi, hq, bitU_n]
                    exact ⟨⟨i + 1, by omega⟩, by simp; omega, Wk.wk (Nat.zero_le _) (by simp [Am.get, hm]) rfl ⟨.inr rfl, trivial⟩ (by simp [AObj.cells, AObj.scs, lst_bel])⟩
                  · have hm := cutN_miss (w := w) hs hlt (.inr hq)
                    simp (config := { maxSteps := 10000000 }) only [go_sem, seval, s_rin_eq, s_of_eq, s_bit_eq, d1, d2, d3, d4, ia, is, hbi, hq]
                    exact ⟨⟨i + 1, by omega⟩, by simp; omega, Wk.wk (Nat.zero_le _) (by simp [Am.get, hm]) rfl ⟨.inr rfl, trivial⟩ (by simp [AObj.cells, AObj.scs, lst_bel])⟩
              · obtain rfl : i = 64 := by omega
                have d2 : ((64 : Int) < 64) = False := by simp
                simp (config := { maxSteps := 10000000 }) only [go_sem, seval, s_rin_eq, s_of_eq, s_bit_eq, d2, e1, e5, lst_len, cutN_64]
                exact ⟨⟨k + 1, by omega⟩, by simp; omega, Wk.wk (Nat.zero_le _) (by simp [Am.get]) rfl ⟨.inr (by simp [lst_succ, hg, hs]), trivial⟩ (by simp [AObj.cells, AObj.scs, lst_bel])⟩
          · simp (config := { maxSteps := 10000000 }) only [go_sem, seval, s_rin_eq, s_of_eq, s_bit_eq, e1, e2, hs, e5, lst_len]
            exact ⟨⟨k + 1, by omega⟩, by simp; omega, Wk.wk (Nat.zero_le _) (by simp [Am.get]) rfl ⟨.inr (by simp [lst_succ, hg, hs, b2]), trivial⟩ (by simp [AObj.cells, AObj.scs, lst_bel])⟩
        · obtain rfl : k = 64 := by omega
          have e2 : ((64 : Int) < 64) = False := by simp
          have e6 : ofG (cutG w a s) = cutU w a s := rfl
          simp (config := { maxSteps := 10000000 }) only [go_sem, seval, s_rin_eq, s_of_eq, s_bit_eq, e2, lst_len, lst_cells, ofW_eq, e6]
    · simp at h
  · simp at h

def signG (w : BitVec 64) (s : Int) (i : Nat) : Bool := decide (1 ≤ s) && (if (i : Int) < s then w.getLsbD i else bitB w (s - 1))

end
end Go.Proofs.Ytanblagbkhpolaa
