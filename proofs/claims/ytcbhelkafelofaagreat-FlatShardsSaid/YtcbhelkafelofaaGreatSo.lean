/- Layer 11: pieces, byte by byte: plain laws. -/
import Derived.Test.YtcbhelkafelofaaGreatS5A
import Derived.Test.YtcbhelkafelofaaGreatFl3
namespace Go.Proofs.YtcbhelkafelofaaGreat
open Go.Am
set_option linter.unusedSimpArgs false
set_option linter.unusedVariables false
noncomputable section

def byP (B : Int → BitVec 64) (c : Int) (l : List Pc) (i : Nat) : List Pc :=
  match l.getLast? with
  | some p => if (i : Int) ≠ c ∧ B i / 64#64 = p.a / 64#64 then l.dropLast ++ [⟨p.a, p.n + 1, p.s⟩] else l ++ [⟨B i, 1, 8 * i⟩]
  | none => l ++ [⟨B i, 1, 8 * i⟩]
def byL (B : Int → BitVec 64) (c : Int) : Nat → List Pc
  | 0 => []
  | i + 1 => byP B c (byL B c i) i
theorem encP_bel (l : List Pc) (n : Nat) : (l.flatMap encP).all (Sc.bel n) = true := by rw [List.all_flatMap]; exact List.all_eq_true.2 fun _ _ => rfl
end
end Go.Proofs.YtcbhelkafelofaaGreat
namespace Go.Proofs.YtcbhelkafelofaaGreat
open Go.Am
set_option linter.unusedSimpArgs false
set_option linter.unusedVariables false
noncomputable section

section
variable {α : Type}
def insK (lt : α → α → Bool) (x : α) (P : List α) : Nat := (P.reverse.takeWhile fun y => lt x y).length
def insR (lt : α → α → Bool) (x : α) (P : List α) : List α := P.take (P.length - insK lt x P) ++ x :: P.drop (P.length - insK lt x P)
def preS (lt : α → α → Bool) (A : List α) : Nat → List α
  | 0 => []
  | i + 1 => match A[i]? with
    | some x => insR lt x (preS lt A i)
    | none => preS lt A i
def srt (lt : α → α → Bool) (A : List α) : List α := preS lt A A.length
theorem tw_len {p : α → Bool} : ∀ (l : List α), (l.takeWhile p).length ≤ l.length
  | [] => Nat.le_refl _
  | x :: l => by
    rw [List.takeWhile_cons]
    split
    · simp only [List.length_cons]; have := tw_len (p := p) l; omega
    · simp
theorem insK_le {lt : α → α → Bool} {x : α} {P : List α} : insK lt x P ≤ P.length := by
  unfold insK; have := tw_len (p := fun y => lt x y) P.reverse; simpa using this
theorem insR_len {lt : α → α → Bool} {x : α} {P : List α} : (insR lt x P).length = P.length + 1 := by
  unfold insR; simp; omega
theorem preS_len {lt : α → α → Bool} {A : List α} : ∀ {i : Nat}, i ≤ A.length → (preS lt A i).length = i
  | 0, _ => rfl
  | i + 1, h => by
    have : A[i]? = some A[i] := List.getElem?_eq_getElem (by omega)
    simp only [preS, this, insR_len, preS_len (show i ≤ A.length by omega)]
theorem tw_get {p : α → Bool} : ∀ {l : List α} {k : Nat} {y : α}, k < (l.takeWhile p).length → l[k]? = some y → p y = true
  | [], k, y, h, _ => by simp at h
  | x :: l, k, y, h, hy => by
    rw [List.takeWhile_cons] at h
    split at h
    · cases k with
      | zero => simp at hy; subst hy; assumption
      | succ k => exact tw_get (l := l) (k := k) (by simpa using h) (by simpa using hy)
    · simp at h
theorem tw_end {p : α → Bool} : ∀ {l : List α} {y : α}, l[(l.takeWhile p).length]? = some y → p y = false
  | [], y, h => by simp at h
  | x :: l, y, h => by
    rw [List.takeWhile_cons] at h
    split at h
    · exact tw_end (l := l) (by simpa using h)
    · rename_i hp; simp at h; subst h; simpa using hp
theorem insK_get {lt : α → α → Bool} {x : α} {P : List α} {k : Nat} {y : α} (h : k < insK lt x P) (hy : P[P.length - 1 - k]? = some y) : lt x y = true := by
  have hl := insK_le (lt := lt) (x := x) (P := P)
  refine tw_get (p := fun y => lt x y) (l := P.reverse) (k := k) h ?_
  rw [List.getElem?_reverse (by omega)]; exact hy
theorem insK_end {lt : α → α → Bool} {x : α} {P : List α} {y : α} (h : insK lt x P < P.length) (hy : P[P.length - 1 - insK lt x P]? = some y) : lt x y = false := by
  refine tw_end (p := fun y => lt x y) (l := P.reverse) ?_
  show P.reverse[insK lt x P]? = _
  rw [List.getElem?_reverse h]; exact hy
def mvS (P : List α) (x : α) (R : List α) (k : Nat) : List α := P.take (P.length - k) ++ x :: (P.drop (P.length - k) ++ R)
theorem mvS_len {P R : List α} {x : α} {k : Nat} : (mvS P x R k).length = P.length + 1 + R.length := by simp [mvS]; omega
theorem mvS_x {P R : List α} {x : α} {k : Nat} (h : k ≤ P.length) : (mvS P x R k)[P.length - k]? = some x := by
  unfold mvS
  rw [List.getElem?_append_right (by simp), show P.length - k - (P.take (P.length - k)).length = 0 by simp]; rfl
theorem mvS_y {P R : List α} {x : α} {k : Nat} (h : k < P.length) : (mvS P x R k)[P.length - k - 1]? = P[P.length - 1 - k]? := by
  unfold mvS
  rw [List.getElem?_append_left (by simp; omega), List.getElem?_take_of_lt (by omega)]; congr 1; omega
theorem mvS_step {P R : List α} {x y : α} {k : Nat} (h : k < P.length) (hy : P[P.length - 1 - k]? = some y) : ((mvS P x R k).set (P.length - k) y).set (P.length - k - 1) x = mvS P x R (k + 1) := by
  have hj : P.length - 1 - k < P.length := by omega
  have hyy : P[P.length - 1 - k] = y := by rw [List.getElem?_eq_getElem hj] at hy; simpa using hy
  have e1 : P.take (P.length - k) = P.take (P.length - (k + 1)) ++ [y] := by
    have : P.length - k = P.length - (k + 1) + 1 := by omega
    rw [this, List.take_succ_eq_append_getElem (by omega)]
    have e : P.length - (k + 1) = P.length - 1 - k := by omega
    simp only [e, hyy]
  have e2 : P.drop (P.length - (k + 1)) = y :: P.drop (P.length - k) := by
    rw [List.drop_eq_getElem_cons (by omega)]
    have e : P.length - (k + 1) = P.length - 1 - k := by omega
    have e' : P.length - 1 - k + 1 = P.length - k := by omega
    simp only [e, e', hyy]
  unfold mvS
  rw [e1, e2]
  have l1 : (P.take (P.length - (k + 1))).length = P.length - k - 1 := by simp; omega
  generalize P.take (P.length - (k + 1)) = T at l1 ⊢
  have l2 : P.length - k = T.length + 1 := by omega
  have l3 : P.length - k - 1 = T.length := by omega
  rw [l3, l2]
  simp [List.set_append]
def rwS (lt : α → α → Bool) (A : List α) (i : Nat) : List α := preS lt A i ++ A.drop i
theorem rwS_1 {lt : α → α → Bool} {A : List α} : rwS lt A 1 = A := by
  cases A with
  | nil => rfl
  | cons x l => simp [rwS, preS, insR, insK]
theorem rwS_mv {lt : α → α → Bool} {A : List α} {i : Nat} {x : α} (hx : A[i]? = some x) : rwS lt A i = mvS (preS lt A i) x (A.drop (i + 1)) 0 := by
  have hi : i < A.length := by
    rcases Nat.lt_or_ge i A.length with h | h
    · exact h
    · rw [List.getElem?_eq_none h] at hx; simp at hx
  unfold rwS mvS
  rw [List.drop_eq_getElem_cons hi, Nat.sub_zero, List.take_length, List.drop_length]
  rw [List.getElem?_eq_getElem hi] at hx
  simp only [Option.some.injEq] at hx
  rw [hx]; rfl
theorem rwS_end {lt : α → α → Bool} {A : List α} {i : Nat} {x : α} (hx : A[i]? = some x) : mvS (preS lt A i) x (A.drop (i + 1)) (insK lt x (preS lt A i)) = rwS lt A (i + 1) := by
  unfold rwS mvS
  simp only [preS, hx, insR, List.append_assoc, List.cons_append]
theorem rwS_all {lt : α → α → Bool} {A : List α} : rwS lt A A.length = srt lt A := by simp [rwS, srt]
theorem srt_len {lt : α → α → Bool} {A : List α} : (srt lt A).length = A.length := preS_len (Nat.le_refl _)

variable [DecidableEq α]
def twB (A : List α) (i : Nat) : Bool := decide (0 < i ∧ A[i]? = A[i - 1]?)
def ddN (A : List α) : Nat → List α
  | 0 => []
  | m + 1 => match A[m]? with
    | some x => if twB A m = true then ddN A m else ddN A m ++ [x]
    | none => ddN A m
def ddp (A : List α) : List α := ddN A A.length
theorem ddN_le {A : List α} : ∀ {m : Nat}, (ddN A m).length ≤ m
  | 0 => Nat.le_refl _
  | m + 1 => by
    have := ddN_le (A := A) (m := m)
    simp only [ddN]
    split
    · split
      · omega
      · simp; omega
    · omega
theorem ddN_lt {A : List α} {K : Nat} (hK : twB A K = true) (hl : K < A.length) : ∀ {m : Nat}, K < m → (ddN A m).length < m
  | 0, h => by omega
  | m + 1, h => by
    have h1 := ddN_le (A := A) (m := m)
    simp only [ddN]
    split
    · split
      · omega
      · rename_i h2
        have hm : K < m := by
          rcases Nat.lt_or_ge K m with h3 | h3
          · exact h3
          · obtain rfl : K = m := by omega
            exact (h2 hK).elim
        have := ddN_lt hK hl hm
        simp; omega
    · omega
theorem ddN_take {A : List α} : ∀ {m : Nat}, m ≤ A.length → (∀ i, i < m → twB A i = false) → ddN A m = A.take m
  | 0, _, _ => by simp [ddN]
  | m + 1, h, hn => by
    have e : A[m]? = some A[m] := List.getElem?_eq_getElem (by omega)
    simp only [ddN, e, hn m (by omega), Bool.false_eq_true, if_false]
    rw [ddN_take (by omega) fun i hi => hn i (by omega), List.take_succ_eq_append_getElem (by omega)]
def rwD (A : List α) (m : Nat) : List α := ddN A m ++ A.drop (ddN A m).length
theorem rwD_len {A : List α} {m : Nat} (h : m ≤ A.length) : (rwD A m).length = A.length := by
  have := ddN_le (A := A) (m := m); simp [rwD]; omega
theorem rwD_get {A : List α} {m i : Nat} (h : (ddN A m).length ≤ i) : (rwD A m)[i]? = A[i]? := by
  unfold rwD
  rw [List.getElem?_append_right h, List.getElem?_drop]; congr 1; omega
theorem rwD_step {A : List α} {m : Nat} {x : α} (hx : A[m]? = some x) (hn : twB A m = false) (hl : (ddN A m).length < A.length) : (rwD A m).set (ddN A m).length x = rwD A (m + 1) := by
  have e : ddN A (m + 1) = ddN A m ++ [x] := by simp only [ddN, hx, hn, Bool.false_eq_true, if_false]
  unfold rwD
  rw [e, List.set_append_right _ _ (Nat.le_refl _), Nat.sub_self, List.append_assoc, List.length_append]
  congr 1
  rw [List.drop_eq_getElem_cons hl]
  rfl
theorem rwD_same {A : List α} {m : Nat} {x : α} (hx : A[m]? = some x) (hn : twB A m = true) : rwD A (m + 1) = rwD A m := by
  unfold rwD; simp only [ddN, hx, hn, if_true]
end

structure Lin {α : Type} (lt : α → α → Bool) : Prop where
  irr : ∀ x, lt x x = false
  tr : ∀ x y z, lt x y = true → lt y z = true → lt x z = true
  tot : ∀ x y, lt x y = false → lt y x = false → x = y
section
variable {α : Type} {lt : α → α → Bool}
theorem Lin.asym (h : Lin lt) {x y : α} (hx : lt x y = true) : lt y x = false := by
  cases e : lt y x with
  | false => rfl
  | true => have := h.tr _ _ _ hx e; rw [h.irr] at this; exact this.symm
theorem Lin.le_lt (h : Lin lt) {x y z : α} (h1 : lt y x = false) (h2 : lt y z = true) : lt x z = true := by
  cases e : lt x y with
  | true => exact h.tr _ _ _ e h2
  | false => rw [h.tot _ _ e h1]; exact h2
theorem Lin.le_le (h : Lin lt) {x y z : α} (h1 : lt y x = false) (h2 : lt z y = false) : lt z x = false := by
  cases e : lt z x with
  | false => rfl
  | true =>
    have := h.le_lt h2 e
    rw [h1] at this; simp at this
theorem insR_mem {x y : α} {P : List α} : y ∈ insR lt x P ↔ y = x ∨ y ∈ P := by
  unfold insR
  have e : y ∈ P ↔ y ∈ P.take (P.length - insK lt x P) ∨ y ∈ P.drop (P.length - insK lt x P) := by
    rw [← List.mem_append, List.take_append_drop]
  simp only [List.mem_append, List.mem_cons, e]
  constructor
  · rintro (h | h | h)
    · exact .inr (.inl h)
    · exact .inl h
    · exact .inr (.inr h)
  · rintro (h | h | h)
    · exact .inr (.inl h)
    · exact .inl h
    · exact .inr (.inr h)
theorem insR_sorted (h : Lin lt) {x : α} {P : List α} (hP : P.Pairwise fun x y => lt y x = false) : (insR lt x P).Pairwise fun x y => lt y x = false := by
  have hk := insK_le (lt := lt) (x := x) (P := P)
  have hT : ∀ y ∈ P.take (P.length - insK lt x P), lt x y = false := by
    intro y hy
    obtain ⟨i, hi⟩ := List.getElem?_of_mem hy
    rw [List.getElem?_take] at hi
    split at hi
    · rename_i hlt
      have hlen : insK lt x P < P.length := by omega
      obtain ⟨z, hz⟩ : ∃ z, P[P.length - 1 - insK lt x P]? = some z := ⟨_, List.getElem?_eq_getElem (by omega)⟩
      have e1 := insK_end hlen hz
      rcases Nat.lt_or_ge i (P.length - 1 - insK lt x P) with h2 | h2
      · have := List.pairwise_iff_getElem.1 hP i (P.length - 1 - insK lt x P) (by omega) (by omega) h2
        rw [List.getElem?_eq_getElem (by omega)] at hi hz
        simp only [Option.some.injEq] at hi hz
        rw [hi, hz] at this
        exact h.le_le this e1
      · have : i = P.length - 1 - insK lt x P := by omega
        rw [this, hz] at hi; simp at hi; rw [← hi]; exact e1
    · simp at hi
  have hD : ∀ y ∈ P.drop (P.length - insK lt x P), lt x y = true := by
    intro y hy
    obtain ⟨i, hi⟩ := List.getElem?_of_mem hy
    rw [List.getElem?_drop] at hi
    have hlt : P.length - insK lt x P + i < P.length := by
      rcases Nat.lt_or_ge (P.length - insK lt x P + i) P.length with h | h
      · exact h
      · rw [List.getElem?_eq_none h] at hi; simp at hi
    refine insK_get (P := P) (k := P.length - 1 - (P.length - insK lt x P + i)) (by omega) ?_
    rw [show P.length - 1 - (P.length - 1 - (P.length - insK lt x P + i)) = P.length - insK lt x P + i by omega]; exact hi
  unfold insR
  rw [List.pairwise_append, List.pairwise_cons]
  have hP' := hP
  rw [← List.take_append_drop (P.length - insK lt x P) P, List.pairwise_append] at hP'
  refine ⟨hP'.1, ⟨fun y hy => h.asym (hD y hy), hP'.2.1⟩, fun y hy z hz => ?_⟩
  rcases List.mem_cons.1 hz with rfl | hz
  · exact hT y hy
  · exact hP'.2.2 y hy z hz
theorem preS_sorted (h : Lin lt) {A : List α} : ∀ {i : Nat}, (preS lt A i).Pairwise fun x y => lt y x = false
  | 0 => List.Pairwise.nil
  | i + 1 => by
    simp only [preS]
    split
    · exact insR_sorted h (preS_sorted h)
    · exact preS_sorted h
theorem preS_mem {A : List α} {y : α} : ∀ {i : Nat}, i ≤ A.length → (y ∈ preS lt A i ↔ y ∈ A.take i)
  | 0, _ => by simp [preS]
  | i + 1, hi => by
    have e : A[i]? = some A[i] := List.getElem?_eq_getElem (by omega)
    simp only [preS, e, insR_mem]
    rw [preS_mem (show i ≤ A.length by omega), List.take_succ_eq_append_getElem (by omega), List.mem_append, List.mem_singleton]
    exact Or.comm
theorem srt_sorted (h : Lin lt) {A : List α} : (srt lt A).Pairwise fun x y => lt y x = false := preS_sorted h
theorem srt_mem {A : List α} {y : α} : y ∈ srt lt A ↔ y ∈ A := by
  unfold srt; rw [preS_mem (Nat.le_refl _), List.take_length]
variable [DecidableEq α]
theorem ddN_spec (h : Lin lt) {A : List α} (hA : A.Pairwise fun x y => lt y x = false) : ∀ {m : Nat}, m ≤ A.length →
    (ddN A m).Pairwise (fun x y => lt x y = true) ∧ (∀ y, y ∈ ddN A m ↔ y ∈ A.take m)
  | 0, _ => by simp [ddN]
  | m + 1, hm => by
    obtain ⟨h1, h2⟩ := ddN_spec h hA (show m ≤ A.length by omega)
    have e : A[m]? = some A[m] := List.getElem?_eq_getElem (by omega)
    have et : A.take (m + 1) = A.take m ++ [A[m]] := List.take_succ_eq_append_getElem (by omega)
    simp only [ddN, e, et, List.mem_append, List.mem_singleton]
    split
    · rename_i ht
      refine ⟨h1, fun y => ?_⟩
      rw [h2]
      refine ⟨.inl, fun hy => ?_⟩
      rcases hy with hy | rfl
      · exact hy
      · unfold twB at ht
        simp only [decide_eq_true_eq] at ht
        rw [e] at ht
        have : (A.take m)[m - 1]? = some A[m] := by rw [List.getElem?_take_of_lt (by omega)]; exact ht.2.symm
        exact List.mem_of_getElem? this
    · rename_i ht
      refine ⟨?_, fun y => by rw [List.mem_append, List.mem_singleton, h2]⟩
      rw [List.pairwise_append]
      refine ⟨h1, List.pairwise_singleton _ _, fun y hy z hz => ?_⟩
      rw [List.mem_singleton] at hz; subst hz
      rw [h2] at hy
      obtain ⟨i, hi⟩ := List.getElem?_of_mem hy
      rw [List.getElem?_take] at hi
      split at hi
      · rename_i him
        have hne : A[m - 1]'(by omega) ≠ A[m] := by
          intro hh
          refine ht ?_
          unfold twB
          simp only [decide_eq_true_eq]
          exact ⟨by omega, by rw [e, List.getElem?_eq_getElem (by omega), hh]⟩
        have a1 := List.pairwise_iff_getElem.1 hA (m - 1) m (by omega) (by omega) (by omega)
        have a2 : lt (A[m - 1]'(by omega)) A[m] = true := by
          cases hq : lt (A[m - 1]'(by omega)) A[m] with
          | true => rfl
          | false => exact (hne (h.tot _ _ hq a1)).elim
        rw [List.getElem?_eq_getElem (by omega)] at hi
        simp only [Option.some.injEq] at hi
        rcases Nat.lt_or_ge i (m - 1) with h3 | h3
        · have := List.pairwise_iff_getElem.1 hA i (m - 1) (by omega) (by omega) h3
          rw [hi] at this
          exact h.le_lt this a2
        · have : i = m - 1 := by omega
          subst this; rw [← hi]; exact a2
      · simp at hi
theorem ddp_spec (h : Lin lt) {A : List α} (hA : A.Pairwise fun x y => lt y x = false) : (ddp A).Pairwise (fun x y => lt x y = true) ∧ ∀ y, y ∈ ddp A ↔ y ∈ A := by
  have := ddN_spec h hA (Nat.le_refl A.length)
  rw [List.take_length] at this
  exact this
theorem ddp_full {A : List α} (hl : (ddp A).length = A.length) : ddp A = A := by
  have key : ∀ m, m ≤ A.length → (ddN A m).length = m → ddN A m = A.take m := by
    intro m
    induction m with
    | zero => intro _ _; simp [ddN]
    | succ m ih =>
      intro hm h
      have e : A[m]? = some A[m] := List.getElem?_eq_getElem (by omega)
      have hle := ddN_le (A := A) (m := m)
      rw [List.take_succ_eq_append_getElem (by omega)]
      simp only [ddN, e] at h ⊢
      split at h
      · omega
      · rename_i ht
        rw [if_neg ht, ih (by omega) (by simpa using h)]
  have := key A.length (Nat.le_refl _) hl
  rw [List.take_length] at this
  exact this
end

def fsN (p : Nat → Bool) : Nat → Nat
  | 0 => 0
  | n + 1 => if fsN p n < n then fsN p n else if p n = true then n else n + 1
theorem fsN_le (p : Nat → Bool) : ∀ n, fsN p n ≤ n
  | 0 => Nat.le_refl _
  | n + 1 => by
    have := fsN_le p n
    simp only [fsN]
    repeat' split
    all_goals omega
theorem fsN_not {p : Nat → Bool} : ∀ {n k : Nat}, k < fsN p n → p k = false
  | 0, k, h => by simp [fsN] at h
  | n + 1, k, h => by
    have l := fsN_le p n
    simp only [fsN] at h
    split at h
    · exact fsN_not h
    · split at h
      · exact fsN_not (n := n) (by omega)
      · by_cases e : k = n
        · subst e; simpa using ‹¬p _ = true›
        · exact fsN_not (n := n) (by omega)
theorem fsN_hit {p : Nat → Bool} : ∀ {n : Nat}, fsN p n < n → p (fsN p n) = true
  | 0, h => by omega
  | n + 1, h => by
    simp only [fsN] at h ⊢
    split
    · exact fsN_hit ‹_›
    · split
      · assumption
      · rename_i h1 h2; rw [if_neg h1, if_neg h2] at h; omega
theorem twB_get {α : Type} [DecidableEq α] {A : List α} {i : Nat} {x y : α} (h0 : 0 < i) (hx : A[i]? = some x) (hy : A[i - 1]? = some y) : twB A i = decide (x = y) := by
  unfold twB
  simp [h0, hx, hy]
def blenN (x : BitVec 64) : Int := if x.toNat = 0 then 0 else if x.toNat < 2 then 1 else if x.toNat < 4 then 2 else if x.toNat < 8 then 3 else 4
def s_blen64 (args : List AV) : Option AV :=
  match args with
  | [.c (.u x)] => if x.toNat ≤ 12 then some (.c (.i (blenN x))) else none
  | _ => none
theorem s_blen64_eq {x} : s_blen64 [.c (.u x)] = if x.toNat ≤ 12 then some (.c (.i (blenN x))) else none := rfl
set_option maxRecDepth 100000 in
set_option maxHeartbeats 2000000 in
theorem ok_blen64 : PuOk Tryz.prog 158 s_blen64 := by
  refine pu_ok (tab := []) hmix TabOk.nil Tryz.func158 rfl Tryz.results158 Tryz.ntmps158 (by kernel_rfl) (by kernel_rfl) ?_
  intro args v h
  unfold s_blen64 at h
  split at h
  · rename_i x
    split at h
    · rename_i hc
      simp only [Option.some.injEq] at h; subst h
      refine ⟨by simp only [List.length_cons, List.length_nil]; decide, rfl, rfl, ?_⟩
      have hx : x = 0#64 ∨ x = 1#64 ∨ x = 2#64 ∨ x = 3#64 ∨ x = 4#64 ∨ x = 5#64 ∨ x = 6#64 ∨ x = 7#64 ∨ x = 8#64 ∨ x = 9#64 ∨ x = 10#64 ∨ x = 11#64 ∨ x = 12#64 := by
        simp only [BitVec.toNat_eq, BitVec.toNat_ofNat]; omega
      rcases hx with rfl | rfl | rfl | rfl | rfl | rfl | rfl | rfl | rfl | rfl | rfl | rfl | rfl
      · (try simp (config := { maxSteps := 10000000 }) only [go_sem, seval]; repeat (simp (disch := omega) only [w64_d, ipos, ineg, dpos, dneg]; try simp (config := { maxSteps := 10000000 }) only [go_sem, seval]))
        generalize hs : ByteArray.mk _ = s
        have h1 : s.size = 256 := by rw [← hs]; rfl
        have h2 : s.data.getD 0 0 = 0 := by rw [← hs]; rfl
        have h3 : IntKind.u8.wrap 0 = 0 := by decide
        have h4 : blenN 0#64 = 0 := by decide
        have h5 : UInt8.toNat 0 = 0 := by decide
        have h6 : s.size ≤ 9223372036854775807 := by omega
        (try simp (config := { maxSteps := 10000000 }) only [go_sem, seval, ev, absC, absS, h1, h2, h3, h4, h5, h6, Int.toNat_natCast, Int.reduceToNat]; repeat (simp (disch := omega) only [w64_d, ipos, ineg, dpos, dneg]; try simp (config := { maxSteps := 10000000 }) only [go_sem, seval, ev, absC, absS, h1, h2, h3, h4, h5, h6, Int.toNat_natCast, Int.reduceToNat]))
      · (try simp (config := { maxSteps := 10000000 }) only [go_sem, seval]; repeat (simp (disch := omega) only [w64_d, ipos, ineg, dpos, dneg]; try simp (config := { maxSteps := 10000000 }) only [go_sem, seval]))
        generalize hs : ByteArray.mk _ = s
        have h1 : s.size = 256 := by rw [← hs]; rfl
        have h2 : s.data.getD 1 0 = 1 := by rw [← hs]; rfl
        have h3 : IntKind.u8.wrap 1 = 1 := by decide
        have h4 : blenN 1#64 = 1 := by decide
        have h5 : UInt8.toNat 1 = 1 := by decide
        have h6 : s.size ≤ 9223372036854775807 := by omega
        (try simp (config := { maxSteps := 10000000 }) only [go_sem, seval, ev, absC, absS, h1, h2, h3, h4, h5, h6, Int.toNat_natCast, Int.reduceToNat]; repeat (simp (disch := omega) only [w64_d, ipos, ineg, dpos, dneg]; try simp (config := { maxSteps := 10000000 }) only [go_sem, seval, ev, absC, absS, h1, h2, h3, h4, h5, h6, Int.toNat_natCast, Int.reduceToNat]))
      · (try simp (config := { maxSteps := 10000000 }) only [go_sem, seval]; repeat (simp (disch := omega) only [w64_d, ipos, ineg, dpos, dneg]; try simp (config := { maxSteps := 10000000 }) only [go_sem, seval]))
        generalize hs : ByteArray.mk _ = s
        have h1 : s.size = 256 := by rw [← hs]; rfl
        have h2 : s.data.getD 2 0 = 2 := by rw [← hs]; rfl
        have h3 : IntKind.u8.wrap 2 = 2 := by decide
        have h4 : blenN 2#64 = 2 := by decide
        have h5 : UInt8.toNat 2 = 2 := by decide
        have h6 : s.size ≤ 9223372036854775807 := by omega
        (try simp (config := { maxSteps := 10000000 }) only [go_sem, seval, ev, absC, absS, h1, h2, h3, h4, h5, h6, Int.toNat_natCast, Int.reduceToNat]; repeat (simp (disch := omega) only [w64_d, ipos, ineg, dpos, dneg]; try simp (config := { maxSteps := 10000000 }) only [go_sem, seval, ev, absC, absS, h1, h2, h3, h4, h5, h6, Int.toNat_natCast, Int.reduceToNat]))
      · (try simp (config := { maxSteps := 10000000 }) only [go_sem, seval]; repeat (simp (disch := omega) only [w64_d, ipos, ineg, dpos, dneg]; try simp (config := { maxSteps := 10000000 }) only [go_sem, seval]))
        generalize hs : ByteArray.mk _ = s
        have h1 : s.size = 256 := by rw [← hs]; rfl
        have h2 : s.data.getD 3 0 = 2 := by rw [← hs]; rfl
        have h3 : IntKind.u8.wrap 3 = 3 := by decide
        have h4 : blenN 3#64 = 2 := by decide
        have h5 : UInt8.toNat 2 = 2 := by decide
        have h6 : s.size ≤ 9223372036854775807 := by omega
        (try simp (config := { maxSteps := 10000000 }) only [go_sem, seval, ev, absC, absS, h1, h2, h3, h4, h5, h6, Int.toNat_natCast, Int.reduceToNat]; repeat (simp (disch := omega) only [w64_d, ipos, ineg, dpos, dneg]; try simp (config := { maxSteps := 10000000 }) only [go_sem, seval, ev, absC, absS, h1, h2, h3, h4, h5, h6, Int.toNat_natCast, Int.reduceToNat]))
      · (try simp (config := { maxSteps := 10000000 }) only [go_sem, seval]; repeat (simp (disch := omega) only [w64_d, ipos, ineg, dpos, dneg]; try simp (config := { maxSteps := 10000000 }) only [go_sem, seval]))
        generalize hs : ByteArray.mk _ = s
        have h1 : s.size = 256 := by rw [← hs]; rfl
        have h2 : s.data.getD 4 0 = 3 := by rw [← hs]; rfl
        have h3 : IntKind.u8.wrap 4 = 4 := by decide
        have h4 : blenN 4#64 = 3 := by decide
        have h5 : UInt8.toNat 3 = 3 := by decide
        have h6 : s.size ≤ 9223372036854775807 := by omega
        (try simp (config := { maxSteps := 10000000 }) only [go_sem, seval, ev, absC, absS, h1, h2, h3, h4, h5, h6, Int.toNat_natCast, Int.reduceToNat]; repeat (simp (disch := omega) only [w64_d, ipos, ineg, dpos, dneg]; try simp (config := { maxSteps := 10000000 }) only [go_sem, seval, ev, absC, absS, h1, h2, h3, h4, h5, h6, Int.toNat_natCast, Int.reduceToNat]))
      · (try simp (config := { maxSteps := 10000000 }) only [go_sem, seval]; repeat (simp (disch := omega) only [w64_d, ipos, ineg, dpos, dneg]; try simp (config := { maxSteps := 10000000 }) only [go_sem, seval]))
        generalize hs : ByteArray.mk _ = s
        have h1 : s.size = 256 := by rw [← hs]; rfl
        have h2 : s.data.getD 5 0 = 3 := by rw [← hs]; rfl
        have h3 : IntKind.u8.wrap 5 = 5 := by decide
        have h4 : blenN 5#64 = 3 := by decide
        have h5 : UInt8.toNat 3 = 3 := by decide
        have h6 : s.size ≤ 9223372036854775807 := by omega
        (try simp (config := { maxSteps := 10000000 }) only [go_sem, seval, ev, absC, absS, h1, h2, h3, h4, h5, h6, Int.toNat_natCast, Int.reduceToNat]; repeat (simp (disch := omega) only [w64_d, ipos, ineg, dpos, dneg]; try simp (config := { maxSteps := 10000000 }) only [go_sem, seval, ev, absC, absS, h1, h2, h3, h4, h5, h6, Int.toNat_natCast, Int.reduceToNat]))
      · (try simp (config := { maxSteps := 10000000 }) only [go_sem, seval]; repeat (simp (disch := omega) only [w64_d, ipos, ineg, dpos, dneg]; try simp (config := { maxSteps := 10000000 }) only [go_sem, seval]))
        generalize hs : ByteArray.mk _ = s
        have h1 : s.size = 256 := by rw [← hs]; rfl
        have h2 : s.data.getD 6 0 = 3 := by rw [← hs]; rfl
        have h3 : IntKind.u8.wrap 6 = 6 := by decide
        have h4 : blenN 6#64 = 3 := by decide
        have h5 : UInt8.toNat 3 = 3 := by decide
        have h6 : s.size ≤ 9223372036854775807 := by omega
        (try simp (config := { maxSteps := 10000000 }) only [go_sem, seval, ev, absC, absS, h1, h2, h3, h4, h5, h6, Int.toNat_natCast, Int.reduceToNat]; repeat (simp (disch := omega) only [w64_d, ipos, ineg, dpos, dneg]; try simp (config := { maxSteps := 10000000 }) only [go_sem, seval, ev, absC, absS, h1, h2, h3, h4, h5, h6, Int.toNat_natCast, Int.reduceToNat]))
      · (try simp (config := { maxSteps := 10000000 }) only [go_sem, seval]; repeat (simp (disch := omega) only [w64_d, ipos, ineg, dpos, dneg]; try simp (config := { maxSteps := 10000000 }) only [go_sem, seval]))
        generalize hs : ByteArray.mk _ = s
        have h1 : s.size = 256 := by rw [← hs]; rfl
        have h2 : s.data.getD 7 0 = 3 := by rw [← hs]; rfl
        have h3 : IntKind.u8.wrap 7 = 7 := by decide
        have h4 : blenN 7#64 = 3 := by decide
        have h5 : UInt8.toNat 3 = 3 := by decide
        have h6 : s.size ≤ 9223372036854775807 := by omega
        (try simp (config := { maxSteps := 10000000 }) only [go_sem, seval, ev, absC, absS, h1, h2, h3, h4, h5, h6, Int.toNat_natCast, Int.reduceToNat]; repeat (simp (disch := omega) only [w64_d, ipos, ineg, dpos, dneg]; try simp (config := { maxSteps := 10000000 }) only [go_sem, seval, ev, absC, absS, h1, h2, h3, h4, h5, h6, Int.toNat_natCast, Int.reduceToNat]))
      · (try simp (config := { maxSteps := 10000000 }) only [go_sem, seval]; repeat (simp (disch := omega) only [w64_d, ipos, ineg, dpos, dneg]; try simp (config := { maxSteps := 10000000 }) only [go_sem, seval]))
        generalize hs : ByteArray.mk _ = s
        have h1 : s.size = 256 := by rw [← hs]; rfl
        have h2 : s.data.getD 8 0 = 4 := by rw [← hs]; rfl
        have h3 : IntKind.u8.wrap 8 = 8 := by decide
        have h4 : blenN 8#64 = 4 := by decide
        have h5 : UInt8.toNat 4 = 4 := by decide
        have h6 : s.size ≤ 9223372036854775807 := by omega
        (try simp (config := { maxSteps := 10000000 }) only [go_sem, seval, ev, absC, absS, h1, h2, h3, h4, h5, h6, Int.toNat_natCast, Int.reduceToNat]; repeat (simp (disch := omega) only [w64_d, ipos, ineg, dpos, dneg]; try simp (config := { maxSteps := 10000000 }) only [go_sem, seval, ev, absC, absS, h1, h2, h3, h4, h5, h6, Int.toNat_natCast, Int.reduceToNat]))
      · (try simp (config := { maxSteps := 10000000 }) only [go_sem, seval]; repeat (simp (disch := omega) only [w64_d, ipos, ineg, dpos, dneg]; try simp (config := { maxSteps := 10000000 }) only [go_sem, seval]))
        generalize hs : ByteArray.mk _ = s
        have h1 : s.size = 256 := by rw [← hs]; rfl
        have h2 : s.data.getD 9 0 = 4 := by rw [← hs]; rfl
        have h3 : IntKind.u8.wrap 9 = 9 := by decide
        have h4 : blenN 9#64 = 4 := by decide
        have h5 : UInt8.toNat 4 = 4 := by decide
        have h6 : s.size ≤ 9223372036854775807 := by omega
        (try simp (config := { maxSteps := 10000000 }) only [go_sem, seval, ev, absC, absS, h1, h2, h3, h4, h5, h6, Int.toNat_natCast, Int.reduceToNat]; repeat (simp (disch := omega) only [w64_d, ipos, ineg, dpos, dneg]; try simp (config := { maxSteps := 10000000 }) only [go_sem, seval, ev, absC, absS, h1, h2, h3, h4, h5, h6, Int.toNat_natCast, Int.reduceToNat]))
      · (try simp (config := { maxSteps := 10000000 }) only [go_sem, seval]; repeat (simp (disch := omega) only [w64_d, ipos, ineg, dpos, dneg]; try simp (config := { maxSteps := 10000000 }) only [go_sem, seval]))
        generalize hs : ByteArray.mk _ = s
        have h1 : s.size = 256 := by rw [← hs]; rfl
        have h2 : s.data.getD 10 0 = 4 := by rw [← hs]; rfl
        have h3 : IntKind.u8.wrap 10 = 10 := by decide
        have h4 : blenN 10#64 = 4 := by decide
        have h5 : UInt8.toNat 4 = 4 := by decide
        have h6 : s.size ≤ 9223372036854775807 := by omega
        (try simp (config := { maxSteps := 10000000 }) only [go_sem, seval, ev, absC, absS, h1, h2, h3, h4, h5, h6, Int.toNat_natCast, Int.reduceToNat]; repeat (simp (disch := omega) only [w64_d, ipos, ineg, dpos, dneg]; try simp (config := { maxSteps := 10000000 }) only [go_sem, seval, ev, absC, absS, h1, h2, h3, h4, h5, h6, Int.toNat_natCast, Int.reduceToNat]))
      · (try simp (config := { maxSteps := 10000000 }) only [go_sem, seval]; repeat (simp (disch := omega) only [w64_d, ipos, ineg, dpos, dneg]; try simp (config := { maxSteps := 10000000 }) only [go_sem, seval]))
        generalize hs : ByteArray.mk _ = s
        have h1 : s.size = 256 := by rw [← hs]; rfl
        have h2 : s.data.getD 11 0 = 4 := by rw [← hs]; rfl
        have h3 : IntKind.u8.wrap 11 = 11 := by decide
        have h4 : blenN 11#64 = 4 := by decide
        have h5 : UInt8.toNat 4 = 4 := by decide
        have h6 : s.size ≤ 9223372036854775807 := by omega
        (try simp (config := { maxSteps := 10000000 }) only [go_sem, seval, ev, absC, absS, h1, h2, h3, h4, h5, h6, Int.toNat_natCast, Int.reduceToNat]; repeat (simp (disch := omega) only [w64_d, ipos, ineg, dpos, dneg]; try simp (config := { maxSteps := 10000000 }) only [go_sem, seval, ev, absC, absS, h1, h2, h3, h4, h5, h6, Int.toNat_natCast, Int.reduceToNat]))
      · (try simp (config := { maxSteps := 10000000 }) only [go_sem, seval]; repeat (simp (disch := omega) only [w64_d, ipos, ineg, dpos, dneg]; try simp (config := { maxSteps := 10000000 }) only [go_sem, seval]))
        generalize hs : ByteArray.mk _ = s
        have h1 : s.size = 256 := by rw [← hs]; rfl
        have h2 : s.data.getD 12 0 = 4 := by rw [← hs]; rfl
        have h3 : IntKind.u8.wrap 12 = 12 := by decide
        have h4 : blenN 12#64 = 4 := by decide
        have h5 : UInt8.toNat 4 = 4 := by decide
        have h6 : s.size ≤ 9223372036854775807 := by omega
        (try simp (config := { maxSteps := 10000000 }) only [go_sem, seval, ev, absC, absS, h1, h2, h3, h4, h5, h6, Int.toNat_natCast, Int.reduceToNat]; repeat (simp (disch := omega) only [w64_d, ipos, ineg, dpos, dneg]; try simp (config := { maxSteps := 10000000 }) only [go_sem, seval, ev, absC, absS, h1, h2, h3, h4, h5, h6, Int.toNat_natCast, Int.reduceToNat]))
    · simp at h
  · simp at h
def s_blen (args : List AV) : Option AV :=
  match args with
  | [.c (.u x)] => if x.toNat ≤ 12 then some (.c (.i (blenN x))) else none
  | _ => none
theorem s_blen_eq {x} : s_blen [.c (.u x)] = if x.toNat ≤ 12 then some (.c (.i (blenN x))) else none := rfl
set_option maxRecDepth 100000 in
set_option maxHeartbeats 2000000 in
theorem ok_blen : PuOk Tryz.prog 146 s_blen := by
  refine pu_ok (tab := [(158, .pu s_blen64)]) hmix (TabOk.cons (e := .pu s_blen64) ok_blen64 TabOk.nil) Tryz.func146 rfl Tryz.results146 Tryz.ntmps146 (by kernel_rfl) (by kernel_rfl) ?_
  intro args v h
  unfold s_blen at h
  split at h
  · rename_i x
    split at h
    · rename_i hc
      simp only [Option.some.injEq] at h; subst h
      refine ⟨by simp only [List.length_cons, List.length_nil]; decide, rfl, rfl, ?_⟩
      (try simp (config := { maxSteps := 10000000 }) only [go_sem, seval, s_blen64_eq, hc]; repeat (simp (disch := omega) only [w64_d, ipos, ineg, dpos, dneg]; try simp (config := { maxSteps := 10000000 }) only [go_sem, seval, s_blen64_eq, hc]))
    · simp at h
  · simp at h
theorem repl_flat {α : Type} {n : Nat} {x : α} : (List.replicate n [x]).flatten = List.replicate n x := by
  induction n with
  | zero => rfl
  | succ n ih => simp [List.replicate_succ, ih]
def vecD {α : Type} (dc : List Sc → Option α) (H : AH) : Sc → Option (List α)
  | .nils => some []
  | .sl id 0 v n => match hg H id with
    | .vec 1 cs => if v = cs.length ∧ n = cs.length then decN 1 dc n cs else none
    | _ => none
  | _ => none
def putV (H : AH) (x : Sc) (cs : List Sc) : AH :=
  match x with
  | .sl id _ _ _ => H.set id (.vec 1 cs)
  | _ => H
theorem putV_len {H : AH} {x : Sc} {cs : List Sc} : (putV H x cs).length = H.length := by unfold putV; split <;> simp
theorem flatMap1 {α : Type} {g : α → Sc} (L : List α) : L.flatMap (fun x => [g x]) = L.map g := by
  induction L with
  | nil => rfl
  | cons x l ih => simp [ih]
theorem vecD_inv {α : Type} {dc : List Sc → Option α} {g : α → Sc} (hd : ∀ cs x, dc cs = some x → cs = [g x]) {H : AH} {x : Sc} {L : List α} (h : vecD dc H x = some L) : (x = .nils ∧ L = []) ∨ ∃ id, x = .sl id 0 L.length L.length ∧ hg H id = .vec 1 (L.map g) := by
  unfold vecD at h
  split at h
  · simp at h; exact .inl ⟨rfl, h⟩
  · rename_i id v n
    split at h
    · rename_i cs ho
      split at h
      · rename_i hc
        obtain ⟨e1, e2⟩ := decN_dec (w := 1) (f := fun x => [g x]) hd n cs L (by omega) h
        rw [flatMap1] at e2
        exact .inr ⟨id, by rw [hc.1, ← hc.2, e1], by rw [ho, e2]⟩
      · simp at h
    · simp at h
  · simp at h
theorem vecD_of {α : Type} {dc : List Sc → Option α} {g : α → Sc} (hd : ∀ x, dc [g x] = some x) {H : AH} {id v n : Nat} {L : List α} (ho : hg H id = .vec 1 (L.map g)) (hv : v = L.length) (hn : n = L.length) : vecD dc H (.sl id 0 v n) = some L := by
  subst hv; subst hn
  simp only [vecD, ho, List.length_map, and_self, if_true]
  have := decN_enc (w := 1) (f := fun x => [g x]) (dc := dc) (fun _ => rfl) hd L
  rw [flatMap1] at this
  exact this
def gI (x : Int) : Sc := .i x
def gU (x : BitVec 64) : Sc := .u x
theorem gU_num (x : BitVec 64) : (gU x).num = true := rfl
theorem gU_d (cs : List Sc) (x : BitVec 64) (h : dcU cs = some x) : cs = [gU x] := dcU_d cs x h
end
end Go.Proofs.YtcbhelkafelofaaGreat
