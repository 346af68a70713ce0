/- Lists that are changed at one place. -/
import Derived.Test.YtcbhelkafelofaaGreatArr
namespace Go.Proofs.YtcbhelkafelofaaGreat
open Go.Am
set_option linter.unusedSimpArgs false
set_option linter.unusedVariables false
noncomputable section

/-! ### lists that are changed at one place -/
section
variable {α : Type} {f : α → List Sc} {w : Nat}
theorem fm_split (h : ∀ x, (f x).length = w) {L : List α} {k : Nat} {x : α} (hx : L[k]? = some x) : ∃ P Q, L.flatMap f = P ++ f x ++ Q ∧ P.length = k * w ∧ ∀ y, (L.set k y).flatMap f = P ++ f y ++ Q := by
  have hk : k < L.length := by
    rcases Nat.lt_or_ge k L.length with h | h
    · exact h
    · rw [List.getElem?_eq_none h] at hx; simp at hx
  rw [List.getElem?_eq_getElem hk] at hx
  simp only [Option.some.injEq] at hx
  refine ⟨(L.take k).flatMap f, (L.drop (k + 1)).flatMap f, ?_, ?_, fun y => ?_⟩
  · conv => lhs; rw [← List.take_append_drop k L, List.drop_eq_getElem_cons hk]
    rw [List.flatMap_append, List.flatMap_cons, hx, List.append_assoc]
  · rw [fm_len h, List.length_take, Nat.min_eq_left (by omega)]
  · rw [List.set_eq_take_append_cons_drop, if_pos hk, List.flatMap_append, List.flatMap_cons, List.append_assoc]
theorem splice {P M Q : List Sc} {o m : Nat} (h : o + m ≤ M.length) : ((P ++ M ++ Q).drop (P.length + o)).take m = (M.drop o).take m := by
  rw [List.append_assoc, List.drop_append, List.drop_of_length_le (by omega), List.nil_append, Nat.add_sub_cancel_left, List.drop_append_of_le_length (by omega), List.take_append_of_le_length (by rw [List.length_drop]; omega)]
theorem splice_set {P M Q l : List Sc} {o : Nat} (h : o + l.length ≤ M.length) : (P ++ M ++ Q).take (P.length + o) ++ l ++ (P ++ M ++ Q).drop (P.length + o + l.length) = P ++ (M.take o ++ l ++ M.drop (o + l.length)) ++ Q := by
  rw [List.append_assoc P M Q, List.take_length_add_append, List.take_append_of_le_length (by omega), Nat.add_assoc, List.drop_length_add_append, List.drop_append_of_le_length h]
  simp only [List.append_assoc]
end

theorem wr_fm {α : Type} {f : α → List Sc} {w : Nat} (h : ∀ x, (f x).length = w) {L : List α} {k : Nat} {x : α} (hk : k < L.length) : wr (L.flatMap f) (k * w) (f x) = (L.set k x).flatMap f := by
  obtain ⟨P, Q, h1, h2, h3⟩ := fm_split h (List.getElem?_eq_getElem hk)
  rw [h1, h3]
  unfold wr
  have := splice_set (P := P) (M := f L[k]) (Q := Q) (l := f x) (o := 0) (by rw [h, h]; omega)
  rw [Nat.add_zero, h2] at this
  rw [this]
  simp [h]
theorem wr_mid {A M B a : List Sc} {i : Nat} (h : i + a.length ≤ M.length) : wr (A ++ (M ++ B)) (A.length + i) a = A ++ (wr M i a ++ B) := by
  unfold wr
  rw [List.take_length_add_append, Nat.add_assoc, List.drop_append, List.take_append_of_le_length (by omega), List.drop_eq_nil_of_le (show A.length ≤ A.length + (i + a.length) by omega),
    show A.length + (i + a.length) - A.length = i + a.length by omega, List.drop_append_of_le_length h]
  simp only [List.append_assoc, List.nil_append]
theorem getD_mid {A M B : List Sc} {i : Nat} (h : i < M.length) : (A ++ (M ++ B)).getD (A.length + i) .any = M.getD i .any := by
  simp only [List.getD_eq_getElem?_getD]
  rw [List.getElem?_append_right (by omega), show A.length + i - A.length = i by omega, List.getElem?_append_left h]
theorem drop_mid {A M B : List Sc} {i n : Nat} (h : i + n ≤ M.length) : ((A ++ (M ++ B)).drop (A.length + i)).take n = (M.drop i).take n := by
  rw [List.drop_append, List.drop_eq_nil_of_le (by omega), show A.length + i - A.length = i by omega, List.nil_append, List.drop_append_of_le_length (by omega), List.take_append_of_le_length (by simp; omega)]
end
end Go.Proofs.YtcbhelkafelofaaGreat
