/- Layer 11: pieces, byte by byte: plain laws. -/
import Derived.Test.YtflcjnekmjdckaaGreatS5
namespace Go.Proofs.YtflcjnekmjdckaaGreat
open Go.Am
set_option linter.unusedSimpArgs false
set_option linter.unusedVariables false
noncomputable section

/-! ### the reference's pieces, byte by byte -/
/-- a byte more -/
def byP (B : Int → BitVec 64) (c : Int) (l : List Pc) (i : Nat) : List Pc :=
  match l.getLast? with
  | some p => if (i : Int) ≠ c ∧ B i / 64#64 = p.a / 64#64 then l.dropLast ++ [⟨p.a, p.n + 1, p.s⟩] else l ++ [⟨B i, 1, 8 * i⟩]
  | none => l ++ [⟨B i, 1, 8 * i⟩]
def byL (B : Int → BitVec 64) (c : Int) : Nat → List Pc
  | 0 => []
  | i + 1 => byP B c (byL B c i) i
theorem line_next (a : BitVec 64) (k : Int) (h0 : (left a : Int) ≤ k) (hk : k < 64) : (a + BitVec.ofInt 64 k) / 64#64 ≠ a / 64#64 := by
  have ha := a.isLt
  unfold left at h0
  have e0 : (BitVec.ofInt 64 k).toNat = k.toNat := by rw [BitVec.toNat_ofInt]; omega
  have e : (64#64).toNat = 64 := rfl
  intro h
  have := congrArg BitVec.toNat h
  rw [BitVec.toNat_udiv, BitVec.toNat_udiv, BitVec.toNat_add, e0, e] at this
  omega
/-- bytes side by side, behind what stands there already -/
theorem byL_run {B : Int → BitVec 64} {c : Int} {a : BitVec 64} {m : Nat} (N : Nat) (hN : N ≤ 8) (hf : byL B c m = [] ∨ (m : Int) = c) (hB : ∀ j : Nat, j < N → B (m + j) = a + BitVec.ofInt 64 j) (hc : ∀ j : Nat, 0 < j → j < N → (m + j : Int) ≠ c) :
    ∀ n : Nat, 1 ≤ n → n ≤ N → byL B c (m + n) = byL B c m ++ pcP a n (8 * m) := by
  have ll : 1 ≤ left a ∧ left a ≤ 64 := by unfold left; omega
  intro n
  induction n with
  | zero => intro h; omega
  | succ n ih =>
    intro h1 h8
    show byP B c (byL B c (m + n)) (m + n) = _
    rcases Nat.eq_zero_or_pos n with rfl | hn
    · have b0 : B m = a := by have := hB 0 (by omega); simpa using this
      have e1 : pcP a ((0 + 1 : Nat) : Int) (8 * m) = [⟨a, 1, 8 * m⟩] := by unfold pcP; rw [if_pos (by omega)]; rfl
      rw [e1, Nat.add_zero]
      unfold byP
      rcases hf with hf | hf
      · rw [hf]; simp [b0]
      · split
        · rw [if_neg (fun h => h.1 hf), b0]
        · rw [b0]
    · rw [ih hn (by omega)]
      have bn := hB n (by omega)
      have cn := hc n hn (by omega)
      have e0 : ((m + n : Nat) : Int) = (m : Int) + n := by omega
      unfold byP pcP
      rw [e0, bn]
      by_cases h2 : (n : Int) ≤ left a
      · rw [if_pos h2]
        simp only [List.getLast?_append, List.getLast?_singleton, Option.some_or]
        by_cases h3 : ((n + 1 : Nat) : Int) ≤ left a
        · rw [if_pos h3, if_pos ⟨cn, line_same _ _ (by omega) (by omega)⟩]
          simp
        · rw [if_neg h3, if_neg (fun h => line_next a n (by omega) (by omega) h.2)]
          have e4 : (n : Int) = left a := by omega
          have e5 : ((n + 1 : Nat) : Int) - left a = 1 := by omega
          have e6 : 8 * ((m : Int) + n) = 8 * m + 8 * left a := by omega
          rw [e5, e6, e4]; simp
      · rw [if_neg h2, if_neg (by omega)]
        have hl : (byL B c m ++ [⟨a, (left a : Int), 8 * (m : Int)⟩, ⟨a + BitVec.ofInt 64 (left a), n - left a, 8 * m + 8 * left a⟩] : List Pc).getLast? = some ⟨a + BitVec.ofInt 64 (left a), n - left a, 8 * m + 8 * left a⟩ := by simp
        rw [hl]
        simp only
        have e5 : ((n + 1 : Nat) : Int) - left a = n - left a + 1 := by omega
        have hline : (a + BitVec.ofInt 64 n) / 64#64 = (a + BitVec.ofInt 64 (left a)) / 64#64 := by
          have := line_same (a + BitVec.ofInt 64 (left a)) (n - left a) (by omega) (by rw [left_al]; omega)
          rw [← this, BitVec.add_assoc, ← BitVec.ofInt_add, show (left a : Int) + (n - left a) = n by omega]
        rw [if_pos ⟨cn, hline⟩, e5]
        simp
theorem byL_acc {a b : BitVec 64} {c s : Int} (h : smB c s = true) : byL (byteU a b c) c s.toNat = accP a b c s := by
  have hm : 1 ≤ s ∧ s ≤ 8 ∧ 0 ≤ c ∧ c < s := by simpa [smB] using h
  unfold accP
  rw [if_pos h]
  split
  · rename_i hc
    subst hc
    have := byL_run (B := byteU a b 0) (c := 0) (a := a) (m := 0) 8 (by omega) (.inl rfl) (fun j _ => by unfold byteU; rw [if_neg (by omega)]; congr 2; omega) (fun j _ _ => by omega) s.toNat (by omega) (by omega)
    rw [Nat.zero_add] at this
    rw [this]
    simp only [byL, List.nil_append]
    congr 1
    omega
  · rename_i hc
    obtain ⟨k, rfl⟩ := Int.eq_ofNat_of_zero_le hm.2.2.1
    have r1 := byL_run (B := byteU a b k) (c := k) (a := a) (m := 0) k (by omega) (.inl rfl) (fun j _ => by unfold byteU; rw [if_neg (by omega)]; congr 2; omega) (fun j _ _ => by omega) k (by omega) (by omega)
    rw [Nat.zero_add] at r1
    have r2 := byL_run (B := byteU a b k) (c := k) (a := b) (m := k) 8 (by omega) (.inr rfl) (fun j _ => by unfold byteU; rw [if_pos (by omega)]; congr 2; omega) (fun j _ _ => by omega) (s.toNat - k) (by omega) (by omega)
    rw [r1, show k + (s.toNat - k) = s.toNat by omega] at r2
    rw [r2]
    simp only [byL, List.nil_append]
    have e : ((s.toNat - k : Nat) : Int) = s - k := by omega
    rw [e]; rfl
theorem map_pf {α : Type} {g : α → Sc} (hg : ∀ x, (g x).num = true) (L : List α) : (L.map g).all Sc.pf = true := by
  rw [List.all_map, List.all_eq_true]; intro x _
  have := hg x
  show (g x).pf = true
  cases e : g x <;> rw [e] at this <;> first | rfl | simp [Sc.num] at this
theorem encP_pf (l : List Pc) : (l.flatMap encP).all Sc.pf = true := by rw [List.all_flatMap]; exact List.all_eq_true.2 fun _ _ => rfl
theorem encP_bel (l : List Pc) (n : Nat) : (l.flatMap encP).all (Sc.bel n) = true := by rw [List.all_flatMap]; exact List.all_eq_true.2 fun _ _ => rfl
theorem byL_le {B : Int → BitVec 64} {c : Int} : ∀ {i : Nat} {p : Pc}, p ∈ byL B c i → 1 ≤ p.n ∧ p.n ≤ i
  | 0, p, h => by simp [byL] at h
  | i + 1, p, h => by
    have ih := fun {p} => byL_le (B := B) (c := c) (i := i) (p := p)
    simp only [byL, byP] at h
    split at h
    · rename_i q hq
      have hqm := List.mem_of_getLast? hq
      split at h
      · rcases List.mem_append.1 h with h | h
        · have := ih ((List.dropLast_sublist _).subset h); omega
        · rw [List.mem_singleton] at h; subst h
          have := ih hqm; simp only; omega
      · rcases List.mem_append.1 h with h | h
        · have := ih h; omega
        · rw [List.mem_singleton] at h; subst h; simp only; omega
    · rcases List.mem_append.1 h with h | h
      · have := ih h; omega
      · rw [List.mem_singleton] at h; subst h; simp only; omega
theorem byL_len {B : Int → BitVec 64} {c : Int} : ∀ {i : Nat}, (byL B c i).length ≤ i
  | 0 => Nat.le_refl _
  | i + 1 => by
    have := byL_len (B := B) (c := c) (i := i)
    simp only [byL, byP]
    split
    · rename_i q hq
      have : (byL B c i) ≠ [] := by intro e; rw [e] at hq; simp at hq
      have := List.length_pos_iff.2 this
      split <;> simp <;> omega
    · simp; omega
/-- the lines of the bytes are those of the pieces -/
theorem byL_lines {B : Int → BitVec 64} {c : Int} {y : BitVec 64} : ∀ {i : Nat}, y ∈ (byL B c i).map (fun p => p.a / 64#64) ↔ y ∈ (List.range i).map (fun j : Nat => B j / 64#64)
  | 0 => by simp [byL]
  | i + 1 => by
    have ih := byL_lines (B := B) (c := c) (y := y) (i := i)
    rw [List.range_succ, List.map_append, List.mem_append, ← ih]
    simp only [byL, byP, List.map_cons, List.map_nil, List.mem_singleton]
    split
    · rename_i p hp
      have hpm := List.mem_of_getLast? hp
      have hd : byL B c i = (byL B c i).dropLast ++ [p] := by
        have hne : byL B c i ≠ [] := by intro e; rw [e] at hp; simp at hp
        have := List.dropLast_concat_getLast hne
        rw [List.getLast?_eq_some_getLast hne] at hp
        simp only [Option.some.injEq] at hp
        rw [hp] at this
        exact this.symm
      split
      · rename_i hc
        conv => rhs; rw [hd]
        simp only [List.map_append, List.map_cons, List.map_nil, List.mem_append, List.mem_singleton, hc.2]
        constructor
        · rintro (h | h)
          · exact .inl (.inl h)
          · exact .inl (.inr h)
        · rintro ((h | h) | h)
          · exact .inl h
          · exact .inr h
          · exact .inr h
      · simp only [List.map_append, List.map_cons, List.map_nil, List.mem_append, List.mem_singleton]
    · simp only [List.map_append, List.map_cons, List.map_nil, List.mem_append, List.mem_singleton]
end
end Go.Proofs.YtflcjnekmjdckaaGreat
