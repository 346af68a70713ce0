/- Contracts of layer 1's reference: what is less, and shifts. -/
import Derived.Test.YtflcjnekmjdckaaR2
import Derived.Test.YtflcjnekmjdckaaB2
namespace Go.Proofs.Ytflcjnekmjdckaa
open Go.Am
set_option linter.unusedSimpArgs false
set_option linter.unusedVariables false
noncomputable section

def lessU (a b : BitVec 64) : Bool := if bitU a 63 = bitU b 63 then decide (a < b) else decide (bitU a 63 = 1#64)
theorem bit63 (a : BitVec 64) : bitU a 63 = b2 a.msb := by
  have : (63 : Int) = ((63 : Nat) : Int) := rfl
  rw [this, bitU_n, BitVec.msb_eq_getLsbD_last]
theorem lessU_eq (a b : BitVec 64) : lessU a b = decide (a.toInt < b.toInt) := by
  unfold lessU
  rw [bit63, bit63]
  have h1 := BitVec.toInt_eq_msb_cond a
  have h2 := BitVec.toInt_eq_msb_cond b
  have l1 := a.isLt
  have l2 := b.isLt
  cases ha : a.msb <;> cases hb : b.msb <;> rw [ha] at h1 <;> rw [hb] at h2 <;> simp only [Bool.false_eq_true, if_false, if_true] at h1 h2 <;> simp [b2, BitVec.lt_def] <;> omega
def s_rless (args : List AV) : Option AV :=
  match args with
  | [.c (.u a), .c (.u b)] => some (.c (.b (decide (a.toInt < b.toInt))))
  | _ => none
theorem s_rless_eq {a b} : s_rless [.c (.u a), .c (.u b)] = some (.c (.b (decide (a.toInt < b.toInt)))) := rfl
set_option maxRecDepth 100000 in
set_option maxHeartbeats 2000000 in
theorem ok_rless : PuOk Try.prog 23 s_rless := by
  refine pu_ok (tab := [(50, .pu s_bit)]) hmix (TabOk.cons (e := .pu s_bit) ok_bit TabOk.nil) Try.func23 rfl Try.results23 Try.ntmps23 (by kernel_rfl) (by kernel_rfl) ?_
  intro args v h
  unfold s_rless at h
  split at h
  · rename_i a b
    simp only [Option.some.injEq] at h; subst h
    refine ⟨by simp only [List.length_cons, List.length_nil]; decide, rfl, rfl, ?_⟩
    rw [← lessU_eq]
    by_cases h : bitU a 63 = bitU b 63
    · simp (config := { maxSteps := 10000000 }) only [go_sem, seval, s_bit_eq, lessU, h]
    · simp (config := { maxSteps := 10000000 }) only [go_sem, seval, s_bit_eq, lessU, h]
  · simp at h

def shG (how : Int) (w : BitVec 64) (f size : Nat) (i : Nat) : Bool :=
  if how = 1 then bitB w ((i : Int) - f) && decide ((i : Int) - f < size)
  else if i + f < size then w.getLsbD (i + f) else if how = 3 then w.getLsbD (size - 1) else false
def farN (n : BitVec 64) (size : Nat) : Nat := if size = 32 then n.toNat % 32 else n.toNat % 64
def refShU (how : Int) (w n : BitVec 64) (size : Nat) : BitVec 64 := signU (ofG fun i => decide (i < size) && shG how w (farN n size) size i) size
theorem ofW_n (g : Nat → Bool) (n : Nat) (hn : n ≤ 64) : ofW (lst g n) n = ofG fun i => decide (i < n) && g i := by
  refine ofG_ext fun i hi => ?_
  rw [ofW_bits g n n (Nat.le_refl _) i hi]
  simp
def s_rshift (args : List AV) : Option AV :=
  match args with
  | [.c (.i how), .c (.u w), .c (.u n), .c (.i size)] => if (how = 1 ∨ how = 2 ∨ how = 3) ∧ (size = 32 ∨ size = 64) then some (.c (.u (refShU how w n size.toNat))) else none
  | _ => none
theorem s_rshift_eq {how w n size} : s_rshift [.c (.i how), .c (.u w), .c (.u n), .c (.i size)] = if (how = 1 ∨ how = 2 ∨ how = 3) ∧ (size = 32 ∨ size = 64) then some (.c (.u (refShU how w n size.toNat))) else none := rfl
set_option maxRecDepth 100000 in
set_option maxHeartbeats 2000000 in
theorem ok_rshift : PuOk Try.prog 53 s_rshift := by
  refine pu_ok (tab := [(51, .fq s_of), (50, .pu s_bit), (24, .pu s_rsign)]) hmix (TabOk.cons (e := .fq s_of) ok_of (TabOk.cons (e := .pu s_bit) ok_bit (TabOk.cons (e := .pu s_rsign) ok_rsign TabOk.nil))) Try.func53 rfl Try.results53 Try.ntmps53 (by kernel_rfl) (by kernel_rfl) ?_
  intro args v h
  unfold s_rshift at h
  split at h
  · rename_i how w n size
    split at h
    · rename_i hc
      simp only [Option.some.injEq] at h; subst h
      refine ⟨by simp only [List.length_cons, List.length_nil]; decide, rfl, rfl, ?_⟩
      obtain ⟨hh, hz⟩ := hc
      obtain ⟨z, rfl⟩ : ∃ z : Nat, size = z := ⟨size.toNat, by omega⟩
      have hz64 : z ≤ 64 := by omega
      have i0 : inR (z : Int) := ⟨by omega, by omega⟩
      have hw : ((z : Int)).toNat = z := by omega
      obtain ⟨f, hf, hfl⟩ : ∃ f, farN n z = f ∧ f < z := ⟨_, rfl, by unfold farN; split <;> omega⟩
      have t1 : (n % 64#64).toInt = ((n.toNat % 64 : Nat) : Int) := by rw [BitVec.toInt_eq_toNat_cond]; simp; omega
      have t2 : (n % 32#64).toInt = ((n.toNat % 32 : Nat) : Int) := by rw [BitVec.toInt_eq_toNat_cond]; simp; omega
      have hcase : (((z : Int) = 32) = True ∧ n.toNat % 32 = f) ∨ (((z : Int) = 32) = False ∧ n.toNat % 64 = f) := by
        by_cases h : z = 32
        · exact .inl ⟨eq_true (by omega), by rw [← hf]; unfold farN; rw [if_pos h]⟩
        · exact .inr ⟨eq_false (by omega), by rw [← hf]; unfold farN; rw [if_neg h]⟩
      rcases hcase with ⟨c, hf'⟩ | ⟨c, hf'⟩
      all_goals
        simp (config := { maxSteps := 10000000 }) only [go_sem, seval, s_of_eq, s_bit_eq, s_rsign_eq, t1, t2, hf', c]
        rw [arun_loop]
        refine ⟨{k : Nat // k ≤ z}, fun k => ([(0, .c (.i how)), (1, .c (.u w)), (3, .c (.i z)), (9, .c (.i f)), (10, .c (.sl 0 0 k.1 k.1)), (11, .c (.i k.1))], [.vec 1 (lst (shG how w f z) k.1)]), fun k => z - k.1, ⟨0, by omega⟩, ?_, ?_⟩
        · exact Wk.trans (Wk.nil 10 1 (by decide) rfl (Nat.zero_le _)) (Wk.wk (Nat.zero_le _) (by simp [Am.get]) rfl ⟨.inr rfl, trivial⟩ rfl)
        · rintro ⟨k, hk⟩
          by_cases hlt : k < z
          · have e1 : w64 ((k : Int) + 1) = ((k + 1 : Nat) : Int) := by rw [w64_of (by omega)]; omega
            have e2 : ((k : Int) < (z : Int)) = True := eq_true (by omega)
            have e3 : w64 ((k : Int) + (f : Int)) = ((k + f : Nat) : Int) := by rw [w64_of (by omega)]; omega
            have e4 : w64 ((k : Int) - (f : Int)) = (k : Int) - (f : Int) := w64_of (by omega)
            have e5 : (k + 1) * 8 ≤ 1099511627776 := by omega
            have e6 : w64 ((z : Int) - 1) = ((z - 1 : Nat) : Int) := by rw [w64_of (by omega)]; omega
            have e7 : ((z : Int) ≤ (k : Int) - (f : Int)) = False := eq_false (by omega)
            have e8 : ((k : Int) - (f : Int) < (z : Int)) = True := eq_true (by omega)
            have e9 : (0 ≤ ((k + f : Nat) : Int)) = True := eq_true (by omega)
            have e10 : (0 ≤ ((z - 1 : Nat) : Int)) = True := eq_true (by omega)
            have e11 : (((z - 1 : Nat) : Int) < (z : Int)) = True := eq_true (by omega)
            have hg : shG how w f z k = if how = 1 then bitB w ((k : Int) - f) && decide ((k : Int) - f < z) else if k + f < z then w.getLsbD (k + f) else if how = 3 then w.getLsbD (z - 1) else false := rfl
            rcases hh with rfl | rfl | rfl
            · by_cases hle : f ≤ k
              · have d1 : ((0 : Int) ≤ (k : Int) - (f : Int)) = True := eq_true (by omega)
                simp (config := { maxSteps := 10000000 }) only [go_sem, seval, s_of_eq, s_bit_eq, s_rsign_eq, e1, e2, e3, e4, e5, e7, e8, d1, lst_len, bitU_B]
                exact ⟨⟨k + 1, by omega⟩, by simp; omega, Wk.wk (Nat.zero_le _) (by simp [Am.get]) rfl ⟨.inr (by simp [lst_succ, hg, e8]), trivial⟩ (by simp [AObj.cells, AObj.scs, lst_bel])⟩
              · have d1 : ((0 : Int) ≤ (k : Int) - (f : Int)) = False := eq_false (by omega)
                have d2 : bitB w ((k : Int) - (f : Int)) = false := bitB_out (by omega)
                simp (config := { maxSteps := 10000000 }) only [go_sem, seval, s_of_eq, s_bit_eq, s_rsign_eq, e1, e2, e3, e4, e5, e7, e8, d1, lst_len]
                exact ⟨⟨k + 1, by omega⟩, by simp; omega, Wk.wk (Nat.zero_le _) (by simp [Am.get]) rfl ⟨.inr (by simp [lst_succ, hg, d2, b2]), trivial⟩ (by simp [AObj.cells, AObj.scs, lst_bel])⟩
            · by_cases hle : k + f < z
              · have d1 : ((z : Int) ≤ ((k + f : Nat) : Int)) = False := eq_false (by omega)
                have d2 : (((k + f : Nat) : Int) < (z : Int)) = True := eq_true (by omega)
                simp (config := { maxSteps := 10000000 }) only [go_sem, seval, s_of_eq, s_bit_eq, s_rsign_eq, e1, e2, e3, e5, e9, d1, d2, lst_len, bitU_n]
                exact ⟨⟨k + 1, by omega⟩, by simp; omega, Wk.wk (Nat.zero_le _) (by simp [Am.get]) rfl ⟨.inr (by simp [lst_succ, hg, hle]), trivial⟩ (by simp [AObj.cells, AObj.scs, lst_bel])⟩
              · have d1 : ((z : Int) ≤ ((k + f : Nat) : Int)) = True := eq_true (by omega)
                have d2 : (((k + f : Nat) : Int) < (z : Int)) = False := eq_false (by omega)
                simp (config := { maxSteps := 10000000 }) only [go_sem, seval, s_of_eq, s_bit_eq, s_rsign_eq, e1, e2, e3, e5, e9, d1, d2, lst_len]
                exact ⟨⟨k + 1, by omega⟩, by simp; omega, Wk.wk (Nat.zero_le _) (by simp [Am.get]) rfl ⟨.inr (by simp [lst_succ, hg, hle, b2]), trivial⟩ (by simp [AObj.cells, AObj.scs, lst_bel])⟩
            · by_cases hle : k + f < z
              · have d1 : ((z : Int) ≤ ((k + f : Nat) : Int)) = False := eq_false (by omega)
                have d2 : (((k + f : Nat) : Int) < (z : Int)) = True := eq_true (by omega)
                simp (config := { maxSteps := 10000000 }) only [go_sem, seval, s_of_eq, s_bit_eq, s_rsign_eq, e1, e2, e3, e5, e9, d1, d2, lst_len, bitU_n]
                exact ⟨⟨k + 1, by omega⟩, by simp; omega, Wk.wk (Nat.zero_le _) (by simp [Am.get]) rfl ⟨.inr (by simp [lst_succ, hg, hle]), trivial⟩ (by simp [AObj.cells, AObj.scs, lst_bel])⟩
              · have d1 : ((z : Int) ≤ ((k + f : Nat) : Int)) = True := eq_true (by omega)
                simp (config := { maxSteps := 10000000 }) only [go_sem, seval, s_of_eq, s_bit_eq, s_rsign_eq, e1, e2, e3, e5, e6, e10, e11, d1, lst_len, bitU_n]
                exact ⟨⟨k + 1, by omega⟩, by simp; omega, Wk.wk (Nat.zero_le _) (by simp [Am.get]) rfl ⟨.inr (by simp [lst_succ, hg, hle]), trivial⟩ (by simp [AObj.cells, AObj.scs, lst_bel])⟩
          · obtain rfl : k = z := by omega
            have e2 : ((k : Int) < (k : Int)) = False := by simp
            have e6 : (ofG fun i => decide (i < k) && shG how w f k i) = (ofG fun i => decide (i < k) && shG how w (farN n k) k i) := by rw [hf]
            have e7 : signU (ofG fun i => decide (i < k) && shG how w (farN n k) k i) (k : Int) = refShU how w n k := rfl
            have e8 : (k ≤ 64) = True := eq_true (by omega)
            simp (config := { maxSteps := 10000000 }) only [go_sem, seval, s_of_eq, s_bit_eq, s_rsign_eq, e2, lst_len, lst_cells, ofW_n _ _ hz64, e6, e7, e8, i0, hw]
    · simp at h
  · simp at h

end
end Go.Proofs.Ytflcjnekmjdckaa
