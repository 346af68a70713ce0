/- Layer 1's laws: the examples; parts, signs, shifts. -/
import Derived.Test.YtanblagbkhpolaaR3
namespace Go.Proofs.Ytanblagbkhpolaa
open Go.Am
set_option linter.unusedSimpArgs false
set_option linter.unusedVariables false
noncomputable section

/-- a number out of a cell -/
def cellI : Sc → Int
  | .i x => x
  | _ => 0
def cellR : Sc → Bool
  | .i x => decide (inR x)
  | _ => false
theorem cellR_get {l : List Sc} {i : Nat} (h : l.all cellR = true) (hi : i < l.length) : ∃ x, inR x ∧ l[i]? = some (.i x) ∧ cellI (l.getD i .any) = x := by
  have := List.all_eq_true.1 h l[i] (List.getElem_mem hi)
  cases hl : l[i] <;> rw [hl] at this <;> simp [cellR] at this
  rename_i x
  exact ⟨x, this, by rw [List.getElem?_eq_getElem hi, hl], by simp [List.getD_eq_getElem?_getD, hi, hl, cellI]⟩
/-- parts put together, behind k of them -/
def gaU (w : BitVec 64) (l : List Sc) : Nat → BitVec 64
  | 0 => 0#64
  | k + 1 => if cellI (l.getD (2 * k + 1) .any) < 1 then gaU w l k else shiftU (gaU w l k) (min (cellI (l.getD (2 * k + 1) .any)) 64) ||| cutU w (cellI (l.getD (2 * k) .any)) (cellI (l.getD (2 * k + 1) .any))
def s_gather (args : List AV) (H : AH) : Option AV :=
  match args with
  | [.c (.u w), .c .nils] => some (.c (.u 0#64))
  | [.c (.u w), .c (.sl id 0 v n)] => if n ≤ 1000000 ∧ 2 * n ≤ (hg H id).cells.length ∧ v = (hg H id).row ∧ (hg H id).cells.all cellR = true then some (.c (.u (gaU w (hg H id).cells n))) else none
  | _ => none
theorem s_gather_eq {w : BitVec 64} {id v n : Nat} {H : AH} : s_gather [.c (.u w), .c (.sl id 0 v n)] H = if n ≤ 1000000 ∧ 2 * n ≤ (hg H id).cells.length ∧ v = (hg H id).row ∧ (hg H id).cells.all cellR = true then some (.c (.u (gaU w (hg H id).cells n))) else none := rfl

theorem live_1 : cutU 240#64 4 4 = 15#64 ∧ putU 0#64 4 8 511#64 = 4080#64 ∧ signU 255#64 8 = 18446744073709551615#64 ∧ gaU 18#64 [.i 1, .i 1, .i 4, .i 1] 2 = 3#64 := by
  simp only [cutU, putU, signU, gaU, shiftU, ofG_eqn]; decide +kernel



theorem sign64 (w : BitVec 64) : signU w (64 : Nat) = w := sign_all (by omega)
theorem sh_1 (w n : BitVec 64) : refShU 1 w n 64 = shiftU w (n.toNat % 64 : Nat) := by
  rw [refShU, sign64]
  refine ofG_congr fun i hi => ?_
  have e : farN n 64 = n.toNat % 64 := rfl
  rw [e]; simp only [shG, if_true, hi, decide_true, Bool.true_and]
  have : decide ((i : Int) - ((n.toNat % 64 : Nat) : Int) < ((64 : Nat) : Int)) = true := decide_eq_true (by omega)
  rw [this, Bool.and_true]
theorem sh_2 (w n : BitVec 64) : refShU 2 w n 64 = shiftU w (-(n.toNat % 64 : Nat)) := by
  rw [refShU, sign64]
  refine ofG_congr fun i hi => ?_
  have e : farN n 64 = n.toNat % 64 := rfl
  rw [e]; simp only [shG, hi, decide_true, Bool.true_and]
  have e2 : (i : Int) - -((n.toNat % 64 : Nat) : Int) = ((i + n.toNat % 64 : Nat) : Int) := by omega
  rw [e2, bitB_n]
  by_cases h : i + n.toNat % 64 < 64
  · simp [h]
  · rw [BitVec.getLsbD_of_ge _ _ (by omega)]; simp [h]
theorem sh_3 (w n : BitVec 64) : refShU 3 w n 64 = sraU w (n.toNat % 64) := by
  rw [refShU, sign64]
  refine ofG_congr fun i hi => ?_
  have e : farN n 64 = n.toNat % 64 := rfl
  rw [e]; simp [shG, hi]
theorem sign_low {x y : BitVec 64} (h : ∀ i, i < 32 → x.getLsbD i = y.getLsbD i) : signU x 32 = signU y 32 := by
  refine ofG_congr fun i hi => ?_
  have e : (32 : Int) - 1 = ((31 : Nat) : Int) := rfl
  rw [e, bitB_n, bitB_n, h 31 (by omega)]
  by_cases h2 : i < 32
  · rw [h i h2]
  · have : ¬ (i : Int) < 32 := by omega
    simp [this]
theorem sh_4 (w n : BitVec 64) : refShU 1 w n 32 = signU (shiftU w (n.toNat % 32 : Nat)) 32 := by
  rw [refShU]
  refine sign_low fun i hi => ?_
  have e : farN n 32 = n.toNat % 32 := rfl
  rw [shiftU, ofG_get (by omega), ofG_get (by omega), e]
  simp only [shG, if_true, hi, decide_true, Bool.true_and]
  have : decide ((i : Int) - ((n.toNat % 32 : Nat) : Int) < ((32 : Nat) : Int)) = true := decide_eq_true (by omega)
  rw [this, Bool.and_true]
theorem sh_5 (w n : BitVec 64) : refShU 2 w n 32 = signU (shiftU (lowU w 32) (-(n.toNat % 32 : Nat))) 32 := by
  rw [refShU]
  refine sign_low fun i hi => ?_
  have e : farN n 32 = n.toNat % 32 := rfl
  rw [shiftU, ofG_get (by omega), ofG_get (by omega), e]
  have e2 : (i : Int) - -((n.toNat % 32 : Nat) : Int) = ((i + n.toNat % 32 : Nat) : Int) := by omega
  rw [e2, bitB_n, lowU, ofG_get (by omega)]
  have e3 : shG 2 w (n.toNat % 32) 32 i = if i + n.toNat % 32 < 32 then w.getLsbD (i + n.toNat % 32) else false := by simp [shG]
  rw [e3, decide_eq_true hi, Bool.true_and]
  by_cases h : i + n.toNat % 32 < 32
  · have h2 : ((i + n.toNat % 32 : Nat) : Int) < 32 := by omega
    rw [if_pos h, decide_eq_true h2, Bool.true_and]
  · have h2 : ¬ ((i + n.toNat % 32 : Nat) : Int) < 32 := by omega
    rw [if_neg h, decide_eq_false h2, Bool.false_and]
theorem sh_6 (w n : BitVec 64) : refShU 3 w n 32 = sraU (signU w 32) (n.toNat % 32) := by
  rw [refShU]
  refine (ofG_ext fun i hi => ?_).symm
  have e : farN n 32 = n.toNat % 32 := rfl
  have hf : n.toNat % 32 < 32 := by omega
  generalize n.toNat % 32 = f at *
  rw [sraU, ofG_get hi, e]
  have e1 : ((32 : Nat) : Int) - 1 = ((31 : Nat) : Int) := rfl
  have e2 : (32 : Int) - 1 = ((31 : Nat) : Int) := rfl
  have sg : ∀ j, j < 64 → (signU w 32).getLsbD j = if j < 32 then w.getLsbD j else w.getLsbD 31 := by
    intro j hj
    rw [signU, ofG_get hj, e2, bitB_n]
    by_cases h : j < 32
    · have : (j : Int) < 32 := by omega
      simp [h, this]
    · have : ¬ (j : Int) < 32 := by omega
      simp [h, this]
  have sh : ∀ j, j < 32 → (ofG fun i => decide (i < 32) && shG 3 w f 32 i).getLsbD j = if j + f < 32 then w.getLsbD (j + f) else w.getLsbD 31 := by
    intro j hj
    rw [ofG_get (by omega)]; simp [shG, hj]
  have hlt : ((i : Int) < ((32 : Nat) : Int)) = (i < 32) := by simp; omega
  rw [e1, bitB_n, sh 31 (by omega)]
  have h1 : decide ((1 : Int) ≤ ((32 : Nat) : Int)) = true := rfl
  have hL : (if i + f < 64 then (signU w 32).getLsbD (i + f) else (signU w 32).getLsbD 63) = if i + f < 32 then w.getLsbD (i + f) else w.getLsbD 31 := by
    by_cases h3 : i + f < 64
    · rw [if_pos h3, sg _ h3]
    · rw [if_neg h3, sg 63 (by omega), if_neg (by omega), if_neg (by omega)]
  rw [hL, h1, Bool.true_and]
  by_cases hi2 : i < 32
  · have h2 : (i : Int) < ((32 : Nat) : Int) := by omega
    rw [if_pos h2, sh i hi2]
  · have h2 : ¬ (i : Int) < ((32 : Nat) : Int) := by omega
    rw [if_neg h2, if_neg (by omega)]
    by_cases h3 : 31 + f < 32
    · rw [if_pos h3]
      have : f = 0 := by omega
      subst this; rfl
    · rw [if_neg h3]

end
end Go.Proofs.Ytanblagbkhpolaa
