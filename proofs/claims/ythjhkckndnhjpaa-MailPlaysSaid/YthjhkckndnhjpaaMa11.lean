/- Layer 29: an ask leaves mail and the reference's mail alike: the plain law. -/
import Derived.Test.YthjhkckndnhjpaaMa10
namespace Go.Proofs.Ythjhkckndnhjpaa
open Go.Am
set_option linter.unusedSimpArgs false
set_option linter.unusedVariables false
noncomputable section

theorem slot_setR {B : List Row} (hB : B.length = 8) {t f t' f' : Nat} (ht : t < 8) (hf : f < 8) (q : Rq) : slotR (setR B t f q) t' f' = if t = t' ∧ f = f' then q else slotR B t' f' := by
  obtain ⟨r, hr⟩ : ∃ r, B[t]? = some r := ⟨_, List.getElem?_eq_getElem (by omega)⟩
  unfold setR
  rw [hr]
  simp only
  unfold slotR
  rw [List.getElem?_set]
  by_cases h1 : t = t'
  · subst h1
    rw [if_pos rfl, if_pos (by omega), hr]
    simp only [List.getElem?_set]
    by_cases h2 : f = f'
    · subst h2
      rw [if_pos rfl, if_pos (by rw [r.2]; exact hf)]; simp
    · rw [if_neg h2]; simp [h2]
  · rw [if_neg h1, if_neg (fun h => h1 h.1)]
theorem slot_clr {R : List Row} (hR : R.length = 8) {f : Nat} (hf : f < 8) (i : Nat) (hi : i ≤ 8) (a b : Nat) : slotR (clrR R f i) a b = if a < i ∧ b = f then rq0 else slotR R a b := by
  induction i with
  | zero => rw [clrR, if_neg (by omega)]
  | succ i ih =>
    rw [clrR, slot_setR (by rw [clrR_len]; exact hR) (by omega) hf, ih (by omega)]
    by_cases h1 : i = a ∧ f = b
    · rw [if_pos h1, if_pos (by omega)]
    · rw [if_neg h1]
      by_cases h2 : a < i ∧ b = f
      · rw [if_pos h2, if_pos (by omega)]
      · rw [if_neg h2, if_neg (by omega)]
theorem slot_row {B : List Row} {f t g : Nat} (hB : B.length = 8) (hf : f < 8) : slotR (B.set f row0) t g = if t = f then rq0 else slotR B t g := by
  unfold slotR
  rw [List.getElem?_set]
  by_cases h : f = t
  · subst h
    rw [if_pos rfl, if_pos (by omega), if_pos rfl]
    simp only [row0]
    by_cases hg : g < 8
    · rw [List.getElem?_replicate, if_pos hg]; rfl
    · rw [List.getElem?_replicate, if_neg hg]; rfl
  · rw [if_neg h, if_neg (fun e => h e.symm)]
theorem col_get {R : List Row} (hR : R.length = 8) {f : Nat} (hf : f < 8) (i : Nat) (hi : i ≤ 8) (j : Nat) (hj : j < 8) : (colR R f i).1[j]? = some (if j < i then slotR R j f else rq0) := by
  induction i with
  | zero =>
    rw [colR, if_neg (by omega)]
    simp only [row0]
    rw [List.getElem?_replicate, if_pos hj]
  | succ i ih =>
    rw [colR]
    unfold rowSet
    simp only
    rw [List.getElem?_set]
    by_cases h : i = j
    · subst h
      rw [if_pos rfl, if_pos (by rw [(colR R f i).2]; omega), if_pos (by omega), slot_clr hR hf i (by omega), if_neg (by omega)]
    · rw [if_neg h, ih (by omega)]
      by_cases h2 : j < i
      · rw [if_pos h2, if_pos (by omega)]
      · rw [if_neg h2, if_neg (by omega)]
theorem row_get {B : List Row} {t j : Nat} (hB : B.length = 8) (ht : t < 8) (hj : j < 8) : (rowAt B t).1[j]? = some (slotR B t j) := by
  obtain ⟨r, hr⟩ : ∃ r, B[t]? = some r := ⟨_, List.getElem?_eq_getElem (by omega)⟩
  unfold rowAt slotR
  rw [hr]
  simp only [Option.getD_some]
  rw [List.getElem?_eq_getElem (by rw [r.2]; exact hj)]
  rfl
/-- a slot that tells of nothing is all zero, and so is each that no hart has -/
def zer (n : Int) (B : List Row) : Prop := ∀ t f : Nat, t < 8 → f < 8 → ((slotR B t f).s = false → slotR B t f = rq0) ∧ (¬ (inH n t = true ∧ inH n f = true) → slotR B t f = rq0)
theorem may_s {n hart h i : Int} {rs : Bool} (hm : mlMay n hart 13 h rs i = true) : rs = true := by
  unfold mlMay at hm
  cases rs
  · split at hm
    · rw [if_neg (by decide), if_pos rfl, if_pos rfl] at hm; exact hm
    · simp at hm
  · rfl
theorem merge_s {o q : Rq} (h : q.s = true) : (mergeR o q).s = true := by
  unfold mergeR
  split
  · exact h
  · rfl
theorem do_keep {n : Int} {B R : List Row} {hart k h : Int} {q : Rq} (hB : B.length = 8) (hR : R.length = 8) (hn : n ≤ 8) (ht : trn n B R) (hz : zer n B) :
    trn n (doB n B hart k h q) (doR n R hart k h q) ∧ zer n (doB n B hart k h q) ∧ doA n B hart k h q = doRA n R hart k h q := by
  by_cases hm : mlMay n hart k h q.s q.i = true
  rotate_left
  · unfold doB doR doA doRA
    rw [if_neg hm, if_neg hm, if_neg hm, if_neg hm]
    exact ⟨ht, hz, rfl⟩
  obtain ⟨i1, i2⟩ := may_in hm
  have i1' := i1
  simp only [inH, Bool.and_eq_true, decide_eq_true_eq] at i1'
  obtain ⟨f, rfl⟩ := Int.eq_ofNat_of_zero_le i1'.1
  have hf : f < 8 := by omega
  unfold doB doR doA doRA
  rw [if_pos hm, if_pos hm, if_pos hm, if_pos hm]
  rcases i2 with rfl | ⟨rfl | rfl, m3⟩
  · rw [if_neg (by decide), if_pos rfl, if_neg (by decide), if_pos rfl, if_neg (by decide), if_pos rfl, if_neg (by decide), if_pos rfl, Int.toNat_natCast]
    refine ⟨fun i j hi hj => ?_, fun t g ht8 hg8 => ?_, ?_⟩
    · rw [slot_clr hR hf 8 (by omega)]
      have hh := ht i j hi hj
      unfold slotV at hh ⊢
      rw [slot_row hB hf]
      simp only [Int.toNat_natCast] at hh ⊢
      by_cases hc : inH n (i : Int) = true ∧ inH n (j : Int) = true
      · rw [if_pos hc] at hh ⊢
        by_cases h1 : j = f
        · rw [if_pos ⟨hi, h1⟩, if_pos h1]
        · rw [if_neg (fun e => h1 e.2), if_neg h1, hh]
      · rw [if_neg hc] at hh ⊢
        split
        · rfl
        · exact hh
    · rw [slot_row hB hf]
      by_cases h1 : t = f
      · rw [if_pos h1]; exact ⟨fun _ => rfl, fun _ => rfl⟩
      · rw [if_neg h1]; exact hz t g ht8 hg8
    · congr 1
      apply Subtype.ext
      apply List.ext_getElem?
      intro j
      by_cases hj : j < 8
      · rw [row_get hB hf hj, col_get hR hf 8 (by omega) j hj, if_pos hj, ht j f hj hf]
        unfold slotV
        simp only [Int.toNat_natCast]
        by_cases hc : inH n (j : Int) = true ∧ inH n (f : Int) = true
        · rw [if_pos hc]
        · rw [if_neg hc, (hz f j hf hj).2 (fun e => hc ⟨e.2, e.1⟩)]
      · rw [List.getElem?_eq_none (by rw [(rowAt B f).2]; omega), List.getElem?_eq_none (by rw [(colR R f 8).2]; omega)]
  · have m3' := m3
    simp only [inH, Bool.and_eq_true, decide_eq_true_eq] at m3'
    obtain ⟨g, rfl⟩ := Int.eq_ofNat_of_zero_le m3'.1
    have hg : g < 8 := by omega
    rw [if_pos rfl, if_pos rfl, if_pos rfl, if_pos rfl, Int.toNat_natCast, Int.toNat_natCast]
    have hs := may_s hm
    have e0 : slotR R f g = slotR B g f := by
      rw [ht f g hf hg]
      unfold slotV
      rw [if_pos ⟨i1, m3⟩, Int.toNat_natCast, Int.toNat_natCast]
    rw [e0]
    generalize hq : mergeR (slotR B g f) q = q'
    have hq' : q'.s = true := by rw [← hq]; exact merge_s hs
    refine ⟨fun i j hi hj => ?_, fun t w ht8 hw8 => ?_, rfl⟩
    · rw [slot_setR hR hf hg]
      have hh := ht i j hi hj
      unfold slotV at hh ⊢
      rw [slot_setR hB hg hf]
      simp only [Int.toNat_natCast] at hh ⊢
      by_cases hc : f = i ∧ g = j
      · obtain ⟨rfl, rfl⟩ := hc
        rw [if_pos ⟨rfl, rfl⟩, if_pos ⟨i1, m3⟩, if_pos ⟨rfl, rfl⟩]
      · rw [if_neg hc]
        by_cases hd : inH n (i : Int) = true ∧ inH n (j : Int) = true
        · rw [if_pos hd] at hh ⊢
          rw [if_neg (fun e => hc ⟨e.2, e.1⟩)]
          exact hh
        · rw [if_neg hd] at hh ⊢
          exact hh
    · rw [slot_setR hB hg hf]
      by_cases hc : g = t ∧ f = w
      · obtain ⟨rfl, rfl⟩ := hc
        rw [if_pos ⟨rfl, rfl⟩]
        exact ⟨fun e => (by rw [hq'] at e; exact absurd e (by decide)), fun e => absurd ⟨m3, i1⟩ e⟩
      · rw [if_neg hc]
        exact hz t w ht8 hw8
  · have m3' := m3
    simp only [inH, Bool.and_eq_true, decide_eq_true_eq] at m3'
    obtain ⟨g, rfl⟩ := Int.eq_ofNat_of_zero_le m3'.1
    have hg : g < 8 := by omega
    rw [if_neg (by decide), if_neg (by decide), if_neg (by decide), if_neg (by decide), if_neg (by decide), if_neg (by decide), if_neg (by decide), if_neg (by decide), Int.toNat_natCast, Int.toNat_natCast]
    have e0 : slotR R f g = slotR B g f := by
      rw [ht f g hf hg]
      unfold slotV
      rw [if_pos ⟨i1, m3⟩, Int.toNat_natCast, Int.toNat_natCast]
    refine ⟨ht, hz, ?_⟩
    rw [e0]
    congr 1
    have := (hz g f hg hf).1
    cases hs : (slotR B g f).s
    · rw [this hs]; rfl
    · cases he : eqR (slotR B g f) rq0
      · rfl
      · rw [eqR_iff.mp he] at hs
        exact absurd hs (by decide)
theorem zer_0 (n : Int) : zer n Z8 := by
  intro t f ht hf
  have : slotR Z8 t f = rq0 := by
    unfold slotR Z8
    rw [List.getElem?_replicate, if_pos ht]
    simp only [row0]
    rw [List.getElem?_replicate, if_pos hf]; rfl
  exact ⟨fun _ => this, fun _ => this⟩
theorem trn_0 (n : Int) : trn n Z8 Z8 := by
  have z : ∀ t f : Nat, t < 8 → f < 8 → slotR Z8 t f = rq0 := fun t f ht hf => by
    unfold slotR Z8
    rw [List.getElem?_replicate, if_pos ht]
    simp only [row0]
    rw [List.getElem?_replicate, if_pos hf]; rfl
  intro i j hi hj
  rw [z i j hi hj]
  unfold slotV
  split
  · rw [Int.toNat_natCast, Int.toNat_natCast, z j i hj hi]
  · rfl

end
end Go.Proofs.Ythjhkckndnhjpaa
