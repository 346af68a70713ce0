/- Contracts of layer 1's reference: words out of lists of bits. -/
import Derived.Test.YtflcjnekmjdckaaGreatB1
namespace Go.Proofs.YtflcjnekmjdckaaGreat
open Go.Am
set_option linter.unusedSimpArgs false
set_option linter.unusedVariables false
noncomputable section

/-- a word out of a cell -/
def cellU : Sc → BitVec 64
  | .u x => x
  | _ => 0#64
def cellIs : Sc → Bool
  | .u _ => true
  | _ => false
theorem cell_get {l : List Sc} {i : Nat} (h : l.all cellIs = true) (hi : i < l.length) : l.getD i .any = .u (cellU (l.getD i .any)) := by
  have e : l.getD i .any = l[i] := by simp [List.getD_eq_getElem?_getD, hi]
  rw [e]
  have := List.all_eq_true.1 h l[i] (List.getElem_mem hi)
  cases hl : l[i] <;> rw [hl] at this <;> simp [cellIs] at this; rfl
/-- the word behind j of a list's cells, from the last one on -/
def ofW (l : List Sc) : Nat → BitVec 64
  | 0 => 0#64
  | j + 1 => 2#64 * ofW l j + cellU (l.getD (l.length - 1 - j) .any)
def s_of (args : List AV) (H : AH) : Option AV :=
  match args with
  | [.c (.sl id 0 v n)] => if n ≤ 64 ∧ n = (hg H id).cells.length ∧ v = (hg H id).row ∧ (hg H id).cells.all cellIs = true then some (.c (.u (ofW (hg H id).cells n))) else none
  | _ => none
theorem s_of_eq {id v n : Nat} {H : AH} : s_of [.c (.sl id 0 v n)] H = if n ≤ 64 ∧ n = (hg H id).cells.length ∧ v = (hg H id).row ∧ (hg H id).cells.all cellIs = true then some (.c (.u (ofW (hg H id).cells n))) else none := rfl

/-- a list of bits, as cells -/
def lst (g : Nat → Bool) (k : Nat) : List Sc := (List.range k).map fun i => .u (b2 (g i))
theorem lst_len {g : Nat → Bool} {k : Nat} : (lst g k).length = k := by simp [lst]
theorem lst_succ {g : Nat → Bool} {k : Nat} : lst g (k + 1) = lst g k ++ [.u (b2 (g k))] := by simp [lst, List.range_succ]
theorem lst_cells {g : Nat → Bool} {k : Nat} : (lst g k).all cellIs = true := by simp [lst, cellIs]
theorem lst_get {g : Nat → Bool} {k i : Nat} (h : i < k) : (lst g k).getD i .any = .u (b2 (g i)) := by simp [lst, List.getD_eq_getElem?_getD, h]
theorem lst_bel {g : Nat → Bool} {k n : Nat} : (lst g k).all (Sc.bel n) = true := by simp [lst, Sc.bel]
theorem dbl {w : BitVec 64} {c : Bool} {i : Nat} (hi : i < 64) : (2#64 * w + b2 c).getLsbD i = if i = 0 then c else w.getLsbD (i - 1) := by
  have h0 : 2#64 * w = w <<< 1 := by
    apply BitVec.eq_of_toNat_eq
    rw [BitVec.toNat_mul, BitVec.toNat_shiftLeft, Nat.shiftLeft_eq, BitVec.toNat_ofNat]
    congr 1; omega
  have h1 : ∀ i, (b2 c).getLsbD i = (decide (i = 0) && c) := by
    intro i; unfold b2; cases c
    · simp
    · by_cases h : i = 0
      · subst h; simp
      · simp [h]
  have h : (w <<< 1) &&& b2 c = 0#64 := by
    apply BitVec.eq_of_getLsbD_eq
    intro i hi
    rw [BitVec.getLsbD_and, BitVec.getLsbD_shiftLeft, h1]
    by_cases h : i = 0
    · subst h; simp
    · simp [h]
  rw [h0, BitVec.add_eq_or_of_and_eq_zero _ _ h, BitVec.getLsbD_or, BitVec.getLsbD_shiftLeft, h1]
  by_cases h : i = 0
  · subst h; simp
  · have h2 : ¬ i < 1 := by omega
    simp [h, h2, hi]
/-- the word of a list of bits -/
theorem ofW_bits (g : Nat → Bool) (n : Nat) : ∀ j, j ≤ n → ∀ i, i < 64 → (ofW (lst g n) j).getLsbD i = (decide (i < j) && g (n - j + i)) := by
  intro j
  induction j with
  | zero => intro _ i _; simp [ofW]
  | succ j ih =>
    intro hj i hi
    simp only [ofW, lst_len]
    rw [lst_get (by omega)]
    simp only [cellU]
    rw [dbl hi]
    by_cases h : i = 0
    · subst h
      have e : n - 1 - j = n - (j + 1) + 0 := by omega
      simp [e]
    · rw [if_neg h, ih (by omega) _ (by omega)]
      have e : n - j + (i - 1) = n - (j + 1) + i := by omega
      have e2 : decide (i - 1 < j) = decide (i < j + 1) := decide_eq_decide.2 (by omega)
      rw [e, e2]
theorem ofW_eq (g : Nat → Bool) : ofW (lst g 64) 64 = ofG g := by
  refine ofG_ext fun i hi => ?_
  rw [ofW_bits g 64 64 (by omega) i hi]
  simp [hi]

/-- which bit of a part one is -/
def inK (a s : Int) (b : Int) : Int := if a ≤ b ∧ b < a + s then min (b - a) 1000 else 0
def inB (a s : Int) (b : Int) : Bool := decide (a ≤ b ∧ b < a + s)
theorem inB_P {a s : Int} {i : Nat} : inB a s i = inP a s i := rfl

end
end Go.Proofs.YtflcjnekmjdckaaGreat
