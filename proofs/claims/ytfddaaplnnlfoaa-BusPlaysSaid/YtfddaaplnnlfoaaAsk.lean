/- Asks and answers as cells. -/
import Derived.Test.YtfddaaplnnlfoaaTy
namespace Go.Proofs.Ytfddaaplnnlfoaa
open Go.Am
set_option linter.unusedSimpArgs false
set_option linter.unusedVariables false
noncomputable section

theorem pf_bel0 {m : List Sc} (n : Nat) (h : m.all Sc.pf = true) : m.all (Sc.bel n) = true := by
  rw [List.all_eq_true] at h ⊢
  intro x hx
  have := h x hx
  cases x <;> simp_all [Sc.pf, Sc.bel]
def askR (r : List Sc) : Prop := r.length = 10 ∧ r.all Sc.pf = true ∧ r.all Sc.one = true
instance decAskR (r : List Sc) : Decidable (askR r) := Classical.propDecidable _
def askS (k : Int) (a b : BitVec 64) (c s op : Int) (d o : BitVec 64) (lv : Bool) (r : List Sc) : List Sc := .i k :: .u a :: .u b :: .i c :: .i s :: .i op :: .u d :: .u o :: .b lv :: r
/-- mail that is nought -/
def zMl : List Sc := (List.replicate 8 [Sc.b false, .b false, .b false, .u 0#64, .i 0]).flatten
def anC (d : BitVec 64) (g : Bool) : List Sc := .u d :: .b g :: zMl
theorem zMl_len : zMl.length = 40 := by decide
theorem zMl_take : zMl.take 40 = zMl := by rw [← zMl_len, List.take_length]
theorem zMl_drop : zMl.drop 40 = [] := by rw [← zMl_len, List.drop_length]
theorem zMl_one : zMl.all Sc.one = true := rfl
theorem zMl_pf : zMl.all Sc.pf = true := rfl
theorem zMl_bel {n : Nat} : zMl.all (Sc.bel n) = true := (pf_bel0 n zMl_pf)
theorem anC_bel {d : BitVec 64} {g : Bool} {n : Nat} : (anC d g).all (Sc.bel n) = true := by unfold anC; rw [List.all_cons, List.all_cons, zMl_bel]; rfl
theorem anT_bel {d : BitVec 64} {g q : Bool} {n : Nat} : (AV.t [.g (anC d g), .c (.b q)]).bel n = true := by
  show ((anC d g).all (Sc.bel n) && (true && true)) = true
  rw [anC_bel]; rfl
theorem zAns : zT Try.prog 33 = some (.u 0#64 :: .b false :: zMl) := by kernel_rfl
attribute [go_sem] zMl_len zMl_take zMl_drop zMl_one zMl_pf
attribute [go_sem 2000] zAns
end
end Go.Proofs.Ytfddaaplnnlfoaa
