/- Layers 9 and 10: memory: lines, a map of them, bytes; contracts -/
import Derived.Test.YtcbhelkafelofaaGreatFl3
import Derived.Test.YtcbhelkafelofaaGreatS5A
namespace Go.Proofs.YtcbhelkafelofaaGreat
open Go.Am
set_option linter.unusedSimpArgs false
set_option linter.unusedVariables false
noncomputable section

def byC (b : BitVec 8) : Sc := .k .u8 b.toNat
def lineC (L : List (BitVec 8)) : List Sc := L.map byC
def dcBy : Sc → Option (BitVec 8)
  | .k .u8 n => if 0 ≤ n ∧ n < 256 then some (BitVec.ofInt 8 n) else none
  | _ => none
theorem dcBy_e (b : BitVec 8) : dcBy (byC b) = some b := by
  have := b.isLt
  simp only [dcBy, byC]
  rw [if_pos (by omega)]
  congr 1
  apply BitVec.eq_of_toNat_eq
  simp
def isLn (cs : List Sc) : Prop := ∃ L : List (BitVec 8), L.length = 64 ∧ cs = lineC L
instance decLn (cs : List Sc) : Decidable (isLn cs) := Classical.propDecidable _
def lnT (cs : List Sc) : List (BitVec 8) := cs.filterMap dcBy
theorem lnT_of (L : List (BitVec 8)) : lnT (lineC L) = L := by
  unfold lnT lineC
  induction L with
  | nil => rfl
  | cons b L ih => rw [List.map_cons, List.filterMap_cons_some (dcBy_e b), ih]
theorem lineC_len {L : List (BitVec 8)} : (lineC L).length = L.length := List.length_map ..
theorem lineC_pf {L : List (BitVec 8)} : (lineC L).all Sc.pf = true := by unfold lineC; rw [List.all_map]; exact List.all_eq_true.2 fun _ _ => rfl
theorem lineC_one {L : List (BitVec 8)} : (lineC L).all Sc.one = true := by unfold lineC; rw [List.all_map]; exact List.all_eq_true.2 fun _ _ => rfl
theorem lineC_bel {L : List (BitVec 8)} {n : Nat} : (lineC L).all (Sc.bel n) = true := by unfold lineC; rw [List.all_map]; exact List.all_eq_true.2 fun _ _ => rfl
theorem lineC_get {L : List (BitVec 8)} {k : Nat} {b : BitVec 8} (h : L[k]? = some b) : (lineC L).getD k .any = byC b := by
  unfold lineC; rw [List.getD_eq_getElem?_getD, List.getElem?_map, h]; rfl
theorem lineC_set {L : List (BitVec 8)} {k : Nat} {b : BitVec 8} : (lineC L).set k (byC b) = lineC (L.set k b) := by
  unfold lineC; rw [List.map_set]
theorem by_u {b : BitVec 8} : BitVec.ofInt 64 (b.toNat : Int) = b.setWidth 64 := by
  apply BitVec.eq_of_toNat_eq
  have := b.isLt
  simp
theorem u_by {v : BitVec 64} : Sc.k .u8 (IntKind.u8.wrap (v.toNat : Int)) = byC (v.setWidth 8) := by
  unfold byC
  congr 1
def getN (L : List (BitVec 8)) (a n : Nat) : Nat → BitVec 64
  | 0 => 0#64
  | m + 1 => (getN L a n m <<< 8) ||| (L.getD (a + (n - 1 - m)) 0#8).setWidth 64
def putN (L : List (BitVec 8)) (a : Nat) (v : BitVec 64) : Nat → List (BitVec 8)
  | 0 => L
  | m + 1 => (putN L a v m).set (a + m) ((v >>> (8 * m)).setWidth 8)
theorem putN_len {L : List (BitVec 8)} {a : Nat} {v : BitVec 64} : ∀ {m : Nat}, (putN L a v m).length = L.length
  | 0 => rfl
  | m + 1 => by simp only [putN, List.length_set]; exact putN_len
theorem putN_get {L : List (BitVec 8)} {a : Nat} {v : BitVec 64} {j : Nat} : ∀ {m : Nat}, a + m ≤ L.length → (putN L a v m).getD j 0#8 = if a ≤ j ∧ j < a + m then (v >>> (8 * (j - a))).setWidth 8 else L.getD j 0#8
  | 0, _ => by simp only [putN]; rw [if_neg (by omega)]
  | m + 1, h => by
    have ih := putN_get (L := L) (a := a) (v := v) (j := j) (m := m) (by omega)
    simp only [putN]
    rw [List.getD_eq_getElem?_getD, List.getElem?_set]
    by_cases e : a + m = j
    · subst e
      rw [if_pos rfl, putN_len, if_pos (by omega), if_pos (by omega)]
      simp
    · rw [if_neg e, ← List.getD_eq_getElem?_getD, ih]
      by_cases h2 : a ≤ j ∧ j < a + m
      · rw [if_pos h2, if_pos (by omega)]
      · rw [if_neg h2, if_neg (by omega)]
theorem getN_bit {L : List (BitVec 8)} {a n i : Nat} : ∀ {m : Nat}, m ≤ n → n ≤ 8 → (getN L a n m).getLsbD i = (decide (i < 8 * m) && (L.getD (a + (n - m) + i / 8) 0#8).getLsbD (i % 8))
  | 0, _, _ => by simp [getN]
  | m + 1, h, h8 => by
    simp only [getN]
    rw [BitVec.getLsbD_or, BitVec.getLsbD_shiftLeft, BitVec.getLsbD_setWidth]
    rcases Nat.lt_or_ge i 8 with h1 | h1
    · rw [show i / 8 = 0 by omega, show i % 8 = i by omega, show a + (n - (m + 1)) + 0 = a + (n - 1 - m) by omega]
      simp [show i < 64 by omega, h1, show i < 8 * (m + 1) by omega]
    · have ih := getN_bit (L := L) (a := a) (n := n) (i := i - 8) (m := m) (by omega) h8
      rw [ih, show a + (n - m) + (i - 8) / 8 = a + (n - (m + 1)) + i / 8 by omega, show (i - 8) % 8 = i % 8 by omega]
      rw [BitVec.getLsbD_of_ge (L.getD (a + (n - 1 - m)) 0#8) i h1]
      by_cases h2 : i < 8 * (m + 1)
      · simp [show i < 64 by omega, h2, show ¬ i < 8 by omega, show i - 8 < 8 * m by omega]
      · simp [h2, show ¬ i - 8 < 8 * m by omega]

abbrev MapE := List (Nat × Nat × List (BitVec 8))
def Z64 : List (BitVec 8) := List.replicate 64 0#8
def lookE : MapE → Nat → Nat → Option (Nat × List (BitVec 8))
  | [], _, _ => none
  | e :: E, i, s => if e.2.1 = i then some (s, e.2.2) else lookE E i (s + 1)
def lineE (E : MapE) (i : Nat) : List (BitVec 8) := match lookE E i 0 with
  | some p => p.2
  | none => Z64
def setE (M : Nat × MapE) (i : Nat) (L : List (BitVec 8)) : Nat × MapE := match lookE M.2 i 0 with
  | some p => (M.1, M.2.set p.1 ((M.2.getD p.1 (0, i, L)).1, i, L))
  | none => (M.1 + 1, M.2 ++ [(M.1, i, L)])
def delE (M : Nat × MapE) (i : Nat) : Nat × MapE := match lookE M.2 i 0 with
  | some p => (M.1, M.2.eraseIdx p.1)
  | none => M
instance decBy (a b : List (BitVec 8)) : Decidable (a = b) := inferInstance
def stE (M : Nat × MapE) (i : Nat) (L : List (BitVec 8)) : Nat × MapE := if L = Z64 then delE M i else setE M i L
def wfE (n : Nat) (M : Nat × MapE) : Prop := (M.2.map (·.2.1)).Nodup ∧ ∀ e ∈ M.2, e.2.1 < n ∧ e.2.2.length = 64
theorem lookE_shift : ∀ {E : MapE} {i s : Nat}, lookE E i s = (lookE E i 0).map fun p => (p.1 + s, p.2)
  | [], _, _ => rfl
  | e :: E, i, s => by
    simp only [lookE]
    split
    · simp
    · rw [lookE_shift (s := s + 1), lookE_shift (s := 0 + 1)]
      cases lookE E i 0 with
      | none => rfl
      | some p => simp only [Option.map_some]; congr 2; omega
theorem lookE_some : ∀ {E : MapE} {i j : Nat} {L : List (BitVec 8)}, lookE E i 0 = some (j, L) → ∃ b, E[j]? = some (b, i, L)
  | [], _, _, _, h => by simp [lookE] at h
  | e :: E, i, j, L, h => by
    simp only [lookE] at h
    split at h
    · rename_i he
      simp only [Option.some.injEq, Prod.mk.injEq] at h
      obtain ⟨rfl, rfl⟩ := h
      exact ⟨e.1, by rw [List.getElem?_cons_zero, ← he]⟩
    · rw [lookE_shift] at h
      rw [Option.map_eq_some_iff] at h
      obtain ⟨⟨j2, L2⟩, h1, h2⟩ := h
      simp only [Prod.mk.injEq] at h2
      obtain ⟨rfl, rfl⟩ := h2
      obtain ⟨b, hb⟩ := lookE_some h1
      exact ⟨b, by rw [Nat.add_comm, Nat.add_comm, Nat.zero_add, List.getElem?_cons_succ]; exact hb⟩
theorem lookE_none : ∀ {E : MapE} {i : Nat}, lookE E i 0 = none ↔ i ∉ E.map (·.2.1)
  | [], _ => by simp [lookE]
  | e :: E, i => by
    have ih := lookE_none (E := E) (i := i)
    simp only [lookE, List.map_cons, List.mem_cons, not_or]
    split
    · rename_i he; simp [he]
    · rename_i he
      rw [lookE_shift, Option.map_eq_none_iff, ih]
      exact ⟨fun h => ⟨fun h2 => he h2.symm, h⟩, fun h => h.2⟩
theorem lookE_mem {E : MapE} (hE : (E.map (·.2.1)).Nodup) {b i : Nat} {L : List (BitVec 8)} (h : (b, i, L) ∈ E) : ∃ j, lookE E i 0 = some (j, L) := by
  induction E with
  | nil => simp at h
  | cons e E ih =>
    rw [List.map_cons, List.nodup_cons] at hE
    simp only [lookE]
    rcases List.mem_cons.1 h with h1 | h1
    · subst h1; exact ⟨0, by rw [if_pos rfl]⟩
    · have hn : ¬ e.2.1 = i := fun he => hE.1 (List.mem_map.2 ⟨_, h1, he.symm⟩)
      obtain ⟨j, hj⟩ := ih hE.2 h1
      rw [if_neg hn, lookE_shift, hj]
      exact ⟨j + (0 + 1), rfl⟩
theorem lineE_iff {E : MapE} (hE : (E.map (·.2.1)).Nodup) {i : Nat} {L : List (BitVec 8)} : lineE E i = L ↔ (∃ b, (b, i, L) ∈ E) ∨ (i ∉ E.map (·.2.1) ∧ L = Z64) := by
  unfold lineE
  constructor
  · intro h
    cases e : lookE E i 0 with
    | none => rw [e] at h; exact .inr ⟨lookE_none.1 e, h.symm⟩
    | some p =>
      rw [e] at h
      obtain ⟨j, L2⟩ := p
      simp only at h
      subst h
      obtain ⟨b, hb⟩ := lookE_some e
      exact .inl ⟨b, List.mem_of_getElem? hb⟩
  · rintro (⟨b, h⟩ | ⟨h1, rfl⟩)
    · obtain ⟨j, hj⟩ := lookE_mem hE h
      rw [hj]
    · rw [lookE_none.2 h1]
theorem keys_set {E : MapE} {j i b b2 : Nat} {L L2 : List (BitVec 8)} (h : E[j]? = some (b, i, L)) : (E.set j (b2, i, L2)).map (·.2.1) = E.map (·.2.1) := by
  rw [List.map_set]
  apply List.ext_getElem?
  intro k
  rw [List.getElem?_set]
  split
  · rename_i e
    subst e
    have hj := (List.getElem?_eq_some_iff.1 h).1
    rw [if_pos (by simpa using hj), List.getElem?_map, h]; rfl
  · rfl
theorem lineE_set {n : Nat} {M : Nat × MapE} (hM : wfE n M) {i k : Nat} {L : List (BitVec 8)} : lineE (setE M i L).2 k = if k = i then L else lineE M.2 k := by
  unfold setE
  cases e : lookE M.2 i 0 with
  | some p =>
    obtain ⟨j, L2⟩ := p
    obtain ⟨b, hb⟩ := lookE_some e
    have hj := (List.getElem?_eq_some_iff.1 hb).1
    simp only
    have hk := keys_set (b2 := (M.2.getD j (0, i, L)).1) (L2 := L) hb
    rw [lineE_iff (by rw [hk]; exact hM.1), hk]
    by_cases h : k = i
    · subst h
      rw [if_pos rfl]
      exact .inl ⟨_, List.mem_of_getElem? (by rw [List.getElem?_set, if_pos rfl, if_pos hj])⟩
    · rw [if_neg h]
      rcases (lineE_iff hM.1 (i := k) (L := lineE M.2 k)).1 rfl with ⟨b3, h3⟩ | h3
      · obtain ⟨m, hm⟩ := List.mem_iff_getElem?.1 h3
        refine .inl ⟨b3, List.mem_of_getElem? (i := m) ?_⟩
        rw [List.getElem?_set]
        split
        · rename_i ejm
          subst ejm
          rw [hb] at hm
          simp only [Option.some.injEq, Prod.mk.injEq] at hm
          exact (h hm.2.1.symm).elim
        · exact hm
      · exact .inr h3
  | none =>
    simp only
    have hni := lookE_none.1 e
    have hnd : ((M.2 ++ [(M.1, i, L)]).map (·.2.1)).Nodup := by
      rw [List.map_append, List.nodup_append]
      refine ⟨hM.1, by simp, fun a ha b hb => ?_⟩
      simp only [List.map_cons, List.map_nil, List.mem_singleton] at hb
      subst hb
      rintro rfl
      exact hni ha
    rw [lineE_iff hnd]
    by_cases h : k = i
    · subst h; rw [if_pos rfl]; exact .inl ⟨M.1, by simp⟩
    · rw [if_neg h]
      rcases (lineE_iff hM.1 (i := k) (L := lineE M.2 k)).1 rfl with ⟨b3, h3⟩ | h3
      · exact .inl ⟨b3, List.mem_append_left _ h3⟩
      · refine .inr ⟨?_, h3.2⟩
        rw [List.map_append, List.mem_append]
        rintro (h4 | h4)
        · exact h3.1 h4
        · simp only [List.map_cons, List.map_nil, List.mem_singleton] at h4; exact h h4
theorem wfE_set {n : Nat} {M : Nat × MapE} (hM : wfE n M) {i : Nat} {L : List (BitVec 8)} (hi : i < n) (hL : L.length = 64) : wfE n (setE M i L) := by
  unfold setE
  cases e : lookE M.2 i 0 with
  | some p =>
    obtain ⟨j, L2⟩ := p
    obtain ⟨b, hb⟩ := lookE_some e
    refine ⟨by rw [keys_set hb]; exact hM.1, fun x hx => ?_⟩
    rcases List.mem_or_eq_of_mem_set hx with h1 | h1
    · exact hM.2 x h1
    · rw [h1]; exact ⟨hi, hL⟩
  | none =>
    have hni := lookE_none.1 e
    refine ⟨?_, fun x hx => ?_⟩
    · rw [List.map_append, List.nodup_append]
      refine ⟨hM.1, by simp, fun a ha b hb => ?_⟩
      simp only [List.map_cons, List.map_nil, List.mem_singleton] at hb
      subst hb
      rintro rfl
      exact hni ha
    · rcases List.mem_append.1 hx with h1 | h1
      · exact hM.2 x h1
      · rw [List.mem_singleton] at h1; rw [h1]; exact ⟨hi, hL⟩
theorem keys_erase {E : MapE} {j : Nat} : (E.eraseIdx j).map (·.2.1) = (E.map (·.2.1)).eraseIdx j := by
  induction E generalizing j with
  | nil => rfl
  | cons e E ih =>
    cases j with
    | zero => rfl
    | succ j => simp only [List.eraseIdx_cons_succ, List.map_cons, ih]
theorem lineE_del {n : Nat} {M : Nat × MapE} (hM : wfE n M) {i k : Nat} : lineE (delE M i).2 k = if k = i then Z64 else lineE M.2 k := by
  unfold delE
  cases e : lookE M.2 i 0 with
  | some p =>
    obtain ⟨j, L2⟩ := p
    obtain ⟨b, hb⟩ := lookE_some e
    have hj := (List.getElem?_eq_some_iff.1 hb).1
    simp only
    have hnd : ((M.2.eraseIdx j).map (·.2.1)).Nodup := by rw [keys_erase]; exact hM.1.sublist (List.eraseIdx_sublist ..)
    rw [lineE_iff hnd]
    by_cases h : k = i
    · subst h
      rw [if_pos rfl]
      refine .inr ⟨?_, rfl⟩
      intro hk
      rw [keys_erase] at hk
      have hP := hM.1
      obtain ⟨m, hm1, hm⟩ := List.mem_eraseIdx_iff_getElem?.1 hk
      have h5 : (M.2.map (·.2.1))[j]? = some k := by rw [List.getElem?_map, hb]; rfl
      have h6 := (List.getElem?_eq_some_iff.1 hm)
      have h7 := (List.getElem?_eq_some_iff.1 h5)
      obtain ⟨l6, g6⟩ := h6
      obtain ⟨l7, g7⟩ := h7
      rw [List.nodup_iff_pairwise_ne, List.pairwise_iff_getElem] at hP
      rcases Nat.lt_trichotomy m j with h8 | h8 | h8
      · exact hP m j l6 l7 h8 (g6.trans g7.symm)
      · exact hm1 h8
      · exact hP j m l7 l6 h8 (g7.trans g6.symm)
    · rw [if_neg h]
      rcases (lineE_iff hM.1 (i := k) (L := lineE M.2 k)).1 rfl with ⟨b3, h3⟩ | h3
      · obtain ⟨m, hm⟩ := List.mem_iff_getElem?.1 h3
        refine .inl ⟨b3, List.mem_eraseIdx_iff_getElem?.2 ⟨m, ?_, hm⟩⟩
        rintro rfl
        rw [hb] at hm
        simp only [Option.some.injEq, Prod.mk.injEq] at hm
        exact h hm.2.1.symm
      · refine .inr ⟨fun hk => h3.1 ?_, h3.2⟩
        rw [keys_erase] at hk
        exact List.mem_of_mem_eraseIdx hk
  | none =>
    simp only
    by_cases h : k = i
    · subst h; rw [if_pos rfl]; unfold lineE; rw [e]
    · rw [if_neg h]
theorem wfE_del {n : Nat} {M : Nat × MapE} (hM : wfE n M) {i : Nat} : wfE n (delE M i) := by
  unfold delE
  split
  · exact ⟨by rw [keys_erase]; exact hM.1.sublist (List.eraseIdx_sublist ..), fun x hx => hM.2 x (List.mem_of_mem_eraseIdx hx)⟩
  · exact hM
theorem lineE_st {n : Nat} {M : Nat × MapE} (hM : wfE n M) {i k : Nat} {L : List (BitVec 8)} : lineE (stE M i L).2 k = if k = i then L else lineE M.2 k := by
  unfold stE
  split
  · rename_i h; subst h; exact lineE_del hM
  · exact lineE_set hM
theorem wfE_st {n : Nat} {M : Nat × MapE} (hM : wfE n M) {i : Nat} {L : List (BitVec 8)} (hi : i < n) (hL : L.length = 64) : wfE n (stE M i L) := by
  unfold stE
  split
  · exact wfE_del hM
  · exact wfE_set hM hi hL
theorem lineE_len {n : Nat} {M : Nat × MapE} (hM : wfE n M) {i : Nat} : (lineE M.2 i).length = 64 := by
  rcases (lineE_iff hM.1 (i := i) (L := lineE M.2 i)).1 rfl with ⟨b, h⟩ | ⟨_, h⟩
  · exact (hM.2 _ h).2
  · rw [h]; rfl

def memB (E : MapE) (j : Nat) : BitVec 8 := (lineE E (j / 64)).getD (j % 64) 0#8
def rdB (B : Nat → BitVec 8) (a n : Nat) : BitVec 64 := ofG fun i => decide (i < 8 * n) && (B (a + i / 8)).getLsbD (i % 8)
theorem getN_rd {E : MapE} {i a n : Nat} (h : a + n ≤ 64) (h8 : n ≤ 8) : getN (lineE E i) a n n = rdB (memB E) (64 * i + a) n := by
  refine ofG_ext fun k hk => ?_
  rw [getN_bit (Nat.le_refl _) h8]
  by_cases hb : k < 8 * n
  · simp only [hb, decide_true, Bool.true_and]
    unfold memB
    rw [show (64 * i + a + k / 8) / 64 = i by omega, show (64 * i + a + k / 8) % 64 = a + k / 8 by omega, show a + (n - n) + k / 8 = a + k / 8 by omega]
  · simp [hb]
theorem rd_two {B : Nat → BitVec 8} {a m n : Nat} (h : m ≤ n) (h8 : n ≤ 8) : (rdB B (a + m) (n - m)) <<< (8 * m) ||| rdB B a m = rdB B a n := by
  refine ofG_ext fun k hk => ?_
  rw [BitVec.getLsbD_or, BitVec.getLsbD_shiftLeft, rdB, rdB, ofG_get hk]
  by_cases hb : k < 8 * m
  · simp [hb, show k < 8 * n by omega]
  · rw [ofG_get (by omega), show a + m + (k - 8 * m) / 8 = a + k / 8 by omega, show (k - 8 * m) % 8 = k % 8 by omega, show decide (k - 8 * m < 8 * (n - m)) = decide (k < 8 * n) from decide_eq_decide.2 (by omega)]
    simp [hb, hk]
def stM (M : Nat × MapE) (a n : Nat) (v : BitVec 64) : Nat × MapE :=
  if min n (64 - a % 64) < n then
    stE (stE M (a / 64) (putN (lineE M.2 (a / 64)) (a % 64) v (64 - a % 64))) (a / 64 + 1)
      (putN (lineE (stE M (a / 64) (putN (lineE M.2 (a / 64)) (a % 64) v (64 - a % 64))).2 (a / 64 + 1)) 0 (v >>> (8 * (64 - a % 64))) (n - (64 - a % 64)))
  else stE M (a / 64) (putN (lineE M.2 (a / 64)) (a % 64) v n)
theorem memB_stE {n : Nat} {M : Nat × MapE} (hM : wfE n M) {i j : Nat} {L : List (BitVec 8)} : memB (stE M i L).2 j = if j / 64 = i then L.getD (j % 64) 0#8 else memB M.2 j := by
  unfold memB; rw [lineE_st hM]; split <;> rfl
theorem wfE_put {N : Nat} {M : Nat × MapE} (hM : wfE N M) {i o m : Nat} {v : BitVec 64} (hi : i < N) : wfE N (stE M i (putN (lineE M.2 i) o v m)) := wfE_st hM hi (by rw [putN_len]; exact lineE_len hM)
theorem wfE_stM {N : Nat} {M : Nat × MapE} (hM : wfE N M) {a n : Nat} {v : BitVec 64} (ha : a + n ≤ 64 * N) (h1 : 1 ≤ n) (h8 : n ≤ 8) : wfE N (stM M a n v) := by
  unfold stM
  split
  · exact wfE_put (wfE_put hM (by omega)) (by omega)
  · exact wfE_put hM (by omega)
theorem memB_put {N : Nat} {M : Nat × MapE} (hM : wfE N M) {i o m j : Nat} {v : BitVec 64} (h : o + m ≤ 64) : memB (stE M i (putN (lineE M.2 i) o v m)).2 j = if 64 * i + o ≤ j ∧ j < 64 * i + o + m then (v >>> (8 * (j - (64 * i + o)))).setWidth 8 else memB M.2 j := by
  rw [memB_stE hM]
  by_cases hj : j / 64 = i
  · rw [if_pos hj, putN_get (by rw [lineE_len hM]; omega)]
    by_cases h2 : o ≤ j % 64 ∧ j % 64 < o + m
    · rw [if_pos h2, if_pos (by omega), show j % 64 - o = j - (64 * i + o) by omega]
    · rw [if_neg h2, if_neg (by omega)]
      unfold memB
      rw [hj]
  · rw [if_neg hj, if_neg (by omega)]
theorem memB_st {N : Nat} {M : Nat × MapE} (hM : wfE N M) {a n j : Nat} {v : BitVec 64} (ha : a + n ≤ 64 * N) (h1 : 1 ≤ n) (h8 : n ≤ 8) : memB (stM M a n v).2 j = if a ≤ j ∧ j < a + n then (v >>> (8 * (j - a))).setWidth 8 else memB M.2 j := by
  unfold stM
  have ea : 64 * (a / 64) + a % 64 = a := by omega
  split
  · rw [memB_put (wfE_put hM (by omega)) (by omega), memB_put hM (by omega), ea]
    by_cases h2 : a + (64 - a % 64) ≤ j ∧ j < a + n
    · rw [if_pos (by omega), if_pos (by omega)]
      rw [← BitVec.shiftRight_add, show 8 * (64 - a % 64) + 8 * (j - (64 * (a / 64 + 1) + 0)) = 8 * (j - a) by omega]
    · rw [if_neg (by omega)]
      by_cases h3 : a ≤ j ∧ j < a + (64 - a % 64)
      · rw [if_pos h3, if_pos (by omega)]
      · rw [if_neg h3, if_neg (by omega)]
  · rw [memB_put hM (by omega), ea]

theorem offN_ex (x : BitVec 64) : ∃ n : Nat, n = x.toNat - 2147483648 := ⟨_, rfl⟩
def offN (x : BitVec 64) : Nat := Classical.choose (offN_ex x)
theorem offN_eq (x : BitVec 64) : offN x = x.toNat - 2147483648 := Classical.choose_spec (offN_ex x)
def hasB (N : Nat) (x : BitVec 64) (n : Int) : Bool := decide (1 ≤ n) && (decide (2147483648 ≤ x.toNat) && (decide (offN x < 64 * N) && decide (n ≤ ((64 * N - offN x : Nat) : Int))))
theorem hasB_iff {N : Nat} {x : BitVec 64} {n : Int} : hasB N x n = true ↔ 1 ≤ n ∧ 2147483648 ≤ x.toNat ∧ offN x < 64 * N ∧ n ≤ ((64 * N - offN x : Nat) : Int) := by
  simp only [hasB, Bool.and_eq_true, decide_eq_true_eq]
def gd2 (B : Int → BitVec 64) : List Pc → Int → Prop
  | [], _ => True
  | p :: l, m => p.s = 8 * m ∧ 1 ≤ p.n ∧ m + p.n ≤ 8 ∧ (∀ j, 0 ≤ j → j < p.n → B (m + j) = p.a + BitVec.ofInt 64 j ∧ (p.a + BitVec.ofInt 64 j) / 64#64 = p.a / 64#64) ∧ gd2 B l (m + p.n)
theorem gd2_app {B : Int → BitVec 64} {l r : List Pc} {m : Int} (h1 : gd2 B l m) (h2 : gd2 B r (m + tot l)) : gd2 B (l ++ r) m := by
  induction l generalizing m with
  | nil => simpa [tot] using h2
  | cons p l ih =>
    obtain ⟨a1, a2, a3, a4, a6⟩ := h1
    refine ⟨a1, a2, a3, a4, ih a6 ?_⟩
    simp only [tot] at h2
    rwa [show m + p.n + tot l = m + (p.n + tot l) by omega]
theorem gd2_pc {B : Int → BitVec 64} {a : BitVec 64} {n m : Int} (hn : 1 ≤ n) (hm : m + n ≤ 8) (h0 : 0 ≤ m) (hB : ∀ j, 0 ≤ j → j < n → B (m + j) = a + BitVec.ofInt 64 j) : gd2 B (pcP a n (8 * m)) m := by
  have hl : 1 ≤ left a ∧ left a ≤ 64 := by unfold left; omega
  unfold pcP
  split
  · rename_i h
    exact ⟨rfl, hn, hm, fun j h1 h2 => ⟨hB j h1 h2, line_same _ _ h1 (by have h3 : j < n := h2; show j < (left a : Int); omega)⟩, trivial⟩
  · rename_i h
    refine ⟨rfl, by simp only; omega, by simp only; omega, fun j h1 h2 => ⟨hB j h1 (by have h3 : j < (left a : Int) := h2; omega), line_same _ _ h1 h2⟩, by simp only; omega, by simp only; omega, by simp only; omega, fun j h1 h2 => ⟨?_, line_same _ _ h1 (by have h3 : j < n - (left a : Int) := h2; rw [left_al]; omega)⟩, trivial⟩
    have h3 : j < n - (left a : Int) := h2
    show B (m + (left a : Int) + j) = a + BitVec.ofInt 64 (left a) + BitVec.ofInt 64 j
    rw [show m + (left a : Int) + j = m + ((left a : Int) + j) by omega, hB _ (by omega) (by omega), BitVec.add_assoc]
    congr 1
    exact BitVec.ofInt_add ..
theorem gd2_acc {a b : BitVec 64} {c s : Int} (h : smB c s = true) : gd2 (byteU a b c) (accP a b c s) 0 := by
  have hm : 1 ≤ s ∧ s ≤ 8 ∧ 0 ≤ c ∧ c < s := by simpa [smB] using h
  unfold accP
  rw [if_pos h]
  split
  · rename_i hc
    subst hc
    have := gd2_pc (B := byteU a b 0) (a := a) (n := s) (m := 0) (by omega) (by omega) (by omega) (fun j h0 h1 => by unfold byteU; rw [if_neg (by omega), Int.zero_add])
    simpa only [Int.mul_zero] using this
  · rename_i hc
    have g1 := gd2_pc (B := byteU a b c) (a := a) (n := c) (m := 0) (by omega) (by omega) (by omega) (fun j h0 h1 => by unfold byteU; rw [if_neg (by omega), Int.zero_add])
    have k1 := gd2_pc (B := byteU a b c) (a := b) (n := s - c) (m := c) (by omega) (by omega) (by omega) (fun j h0 h1 => by unfold byteU; rw [if_pos (by omega), show c + j - c = j by omega])
    have g2 := (good_pc (B := byteU a b c) (a := a) (n := c) (m := 0) (by omega) (by omega) (by omega) (fun j h0 h1 => by unfold byteU; rw [if_neg (by omega), Int.zero_add])).2.1
    simp only [Int.mul_zero] at g1 g2
    exact gd2_app g1 (by rw [g2, Int.zero_add]; exact k1)
theorem off_add {N : Nat} {x : BitVec 64} {n j : Int} (hN : N ≤ 4096) (h : hasB N x n = true) (h0 : 0 ≤ j) (hj : j < n) : offN (x + BitVec.ofInt 64 j) = offN x + j.toNat := by
  rw [hasB_iff] at h
  have e0 : (BitVec.ofInt 64 j).toNat = j.toNat := by rw [BitVec.toNat_ofInt]; omega
  rw [offN_eq, offN_eq, BitVec.toNat_add, e0]
  rw [offN_eq] at h
  omega
def getA (E : MapE) (B : Int → BitVec 64) (s : Int) : BitVec 64 := ofG fun i => decide ((i : Int) < 8 * s) && (memB E (offN (B ((i / 8 : Nat) : Int)))).getLsbD (i % 8)
def partsA (E : MapE) (l : List Pc) : List (BitVec 64) := l.map fun p => rdB (memB E) (offN p.a) p.n.toNat
theorem jn1_bits {out x y : BitVec 64} {p : Pc} (h : ∀ i : Nat, (i : Int) < 8 * p.n → i < 64 → x.getLsbD i = y.getLsbD i) : jn1 out p x = jn1 out p y := by
  unfold jn1
  split
  · rename_i hr
    rw [right_iff] at hr
    refine ofG_congr fun i hi => ?_
    split
    · rename_i hp
      simp only [inP, decide_eq_true_eq] at hp
      rw [bitB_in (by omega) (by omega), bitB_in (by omega) (by omega)]
      exact h _ (by omega) (by omega)
    · rfl
  · rfl
theorem join_get {E : MapE} {B : Int → BitVec 64} {N : Nat} (hN : N ≤ 4096) {V : BitVec 64} {l : List Pc} {m : Int} (h : gd2 B l m) (h0 : 0 ≤ m) (hh : ∀ p ∈ l, hasB N p.a p.n = true)
    (hV : ∀ i : Nat, (i : Int) < 8 * (m + tot l) → V.getLsbD i = (memB E (offN (B ((i / 8 : Nat) : Int)))).getLsbD (i % 8)) (ht : m + tot l ≤ 8) (hp : ∀ k, 0 ≤ tot (l.drop k)) : jnU l (partsA E l) (lowU V (8 * m)) = lowU V (8 * (m + tot l)) := by
  induction l generalizing m with
  | nil => simp [jnU, tot]
  | cons p l ih =>
    obtain ⟨a1, a2, a3, a4, a6⟩ := h
    simp only [partsA, List.map_cons, jnU, tot] at *
    have e : p = ⟨p.a, p.n, 8 * m⟩ := by rw [← a1]
    have hq := hp 1
    rw [List.drop_succ_cons, List.drop_zero] at hq
    have h1 : jn1 (lowU V (8 * m)) p (rdB (memB E) (offN p.a) p.n.toNat) = jn1 (lowU V (8 * m)) p (partU V p.n p.s) := by
      refine jn1_bits fun i hi hi64 => ?_
      have hr : rightB p.n p.s = true := by rw [right_iff]; omega
      unfold partU rdB
      rw [if_pos hr, ofG_get hi64]
      unfold cutU
      rw [ofG_get hi64, decide_eq_true (show i < 8 * p.n.toNat by omega), decide_eq_true hi, Bool.true_and, Bool.true_and, bitB_in (by omega) (by omega)]
      have e2 : (p.s + (i : Int)).toNat / 8 = m.toNat + i / 8 := by omega
      have e3 : (p.s + (i : Int)).toNat % 8 = i % 8 := by omega
      rw [hV _ (by omega), e2, e3]
      have e4 : (((m.toNat + i / 8 : Nat)) : Int) = m + ((i / 8 : Nat) : Int) := by omega
      rw [e4, (a4 _ (by omega) (by omega)).1, off_add hN (hh p (by simp)) (by omega) (by omega), Int.toNat_natCast]
    have := part_join (v := V) h0 a2 a3 p.a
    rw [h1, a1, show jn1 (lowU V (8 * m)) p (partU V p.n (8 * m)) = lowU V (8 * (m + p.n)) by rw [← this]; exact congrArg (fun q => jn1 (lowU V (8 * m)) q (partU V p.n (8 * m))) e]
    rw [ih a6 (by omega) (fun q hq => hh q (by simp [hq])) (fun i hi => hV i (by omega)) (by omega) (fun k => by have := hp (k + 1); simpa using this)]
    congr 1; omega
theorem tot_drop {B : Int → BitVec 64} {l : List Pc} {m : Int} (h : gd2 B l m) (k : Nat) : 0 ≤ tot (l.drop k) := by
  induction l generalizing m k with
  | nil => simp [tot]
  | cons q l ih =>
    cases k with
    | zero => have := ih h.2.2.2.2 0; have := h.2.1; simp only [List.drop_zero, tot] at *; omega
    | succ k => exact ih h.2.2.2.2 k
theorem get_acc {E : MapE} {a b : BitVec 64} {c s : Int} {N : Nat} (hN : N ≤ 4096) (h : smB c s = true) (hh : ∀ p ∈ accP a b c s, hasB N p.a p.n = true) : jnU (accP a b c s) (partsA E (accP a b c s)) 0#64 = getA E (byteU a b c) s := by
  have g := gd2_acc (a := a) (b := b) h
  have ht := (good_acc (a := a) (b := b) h).2.1
  have hm : 1 ≤ s ∧ s ≤ 8 ∧ 0 ≤ c ∧ c < s := by simpa [smB] using h
  have := join_get (E := E) hN (V := getA E (byteU a b c) s) g (by omega) hh (fun i hi => by
    unfold getA
    rw [ofG_get (by omega), decide_eq_true (by omega)]; rfl) (by omega) (tot_drop g)
  rw [show (8 : Int) * 0 = 0 by omega, low_0, ht, Int.zero_add] at this
  rw [this]
  refine BitVec.eq_of_getLsbD_eq fun i hi => ?_
  unfold lowU getA
  rw [ofG_get hi, ofG_get hi]
  cases decide ((i : Int) < 8 * s) <;> rfl

def lfB (a n : Int) : Bool := decide (1 ≤ n) && (decide (n ≤ 8) && (decide (0 ≤ a) && decide (a ≤ 64 - n)))
theorem lfB_nat {a n : Int} (h : lfB a n = true) : ∃ a' n' : Nat, a = a' ∧ n = n' ∧ 1 ≤ n' ∧ n' ≤ 8 ∧ a' + n' ≤ 64 := by
  simp only [lfB, Bool.and_eq_true, decide_eq_true_eq] at h
  exact ⟨a.toNat, n.toNat, by omega, by omega, by omega, by omega, by omega⟩
theorem lfB_of {a n : Nat} (h1 : 1 ≤ n) (h2 : n ≤ 8) (h3 : a + n ≤ 64) : lfB a n = true := by
  simp only [lfB, Bool.and_eq_true, decide_eq_true_eq]; omega
def s_lfits (args : List AV) : Option AV :=
  match args with
  | [.c (.i a), .c (.i n)] => some (.c (.b (lfB a n)))
  | _ => none
theorem s_lfits_eq {a n} : s_lfits [.c (.i a), .c (.i n)] = some (.c (.b (lfB a n))) := rfl
set_option maxRecDepth 100000 in
set_option maxHeartbeats 2000000 in
theorem ok_lfits : PuOk Tryz.prog 99 s_lfits := by
  refine pu_ok (tab := []) hmix TabOk.nil Tryz.func99 rfl Tryz.results99 Tryz.ntmps99 (by kernel_rfl) (by kernel_rfl) ?_
  intro args v h
  unfold s_lfits at h
  split at h
  · rename_i a n
    simp only [Option.some.injEq] at h; subst h
    refine ⟨by simp only [List.length_cons, List.length_nil]; decide, rfl, rfl, ?_⟩
    by_cases h1 : 1 ≤ n
    · by_cases h2 : n ≤ 8
      · have e : w64 (64 - n) = 64 - n := w64_d (by omega) (by omega)
        by_cases h3 : 0 ≤ a
        all_goals (try simp (config := { maxSteps := 10000000 }) only [go_sem, seval, lfB, h1, h2, h3, e]; repeat (simp (disch := omega) only [w64_d, ipos, ineg, dpos, dneg]; try simp (config := { maxSteps := 10000000 }) only [go_sem, seval, lfB, h1, h2, h3, e]))
      · (try simp (config := { maxSteps := 10000000 }) only [go_sem, seval, lfB, h1, h2]; repeat (simp (disch := omega) only [w64_d, ipos, ineg, dpos, dneg]; try simp (config := { maxSteps := 10000000 }) only [go_sem, seval, lfB, h1, h2]))
    · (try simp (config := { maxSteps := 10000000 }) only [go_sem, seval, lfB, h1]; repeat (simp (disch := omega) only [w64_d, ipos, ineg, dpos, dneg]; try simp (config := { maxSteps := 10000000 }) only [go_sem, seval, lfB, h1]))
  · simp at h
theorem zRow_ln : zRow 64 (.k .u8 0) = lineC Z64 := rfl
theorem L_get {L : List (BitVec 8)} {k : Nat} (h : k < L.length) : L[k]? = some (L.getD k 0#8) := by
  rw [List.getD_eq_getElem?_getD, List.getElem?_eq_getElem h]; rfl
def lgetU (l : List Sc) (a n : Int) : BitVec 64 := if lfB a n = true then getN (lnT l) a.toNat n.toNat n.toNat else 0#64
def lputL (l : List Sc) (a n : Int) (v : BitVec 64) : List Sc := if lfB a n = true then lineC (putN (lnT l) a.toNat v n.toNat) else l
def s_lget (args : List AV) : Option AV :=
  match args with
  | [.g l, .c (.i a), .c (.i n)] => if isLn l then some (.t [.c (.u (lgetU l a n)), .c (.b (lfB a n))]) else none
  | _ => none
theorem s_lget_eq {l a n} : s_lget [.g l, .c (.i a), .c (.i n)] = if isLn l then some (.t [.c (.u (lgetU l a n)), .c (.b (lfB a n))]) else none := rfl
set_option maxRecDepth 100000 in
set_option maxHeartbeats 2000000 in
theorem ok_lget : PuOk Tryz.prog 61 s_lget := by
  refine pu_ok (tab := [(99, .pu s_lfits)]) hmix (TabOk.cons (e := .pu s_lfits) ok_lfits TabOk.nil) Tryz.func61 rfl Tryz.results61 Tryz.ntmps61 (by kernel_rfl) (by kernel_rfl) ?_
  intro args v h
  unfold s_lget at h
  split at h
  · rename_i l a n
    split at h
    · rename_i hc
      simp only [Option.some.injEq] at h; subst h
      obtain ⟨L, hL, rfl⟩ := hc
      have pl := @lineC_pf L
      refine ⟨by simp only [List.length_cons, List.length_nil]; decide, by first | rfl | simp only [List.all_cons, List.all_nil, AV.pf, Sc.pf, Bool.and_true, *], by first | rfl | simp only [List.all_cons, List.all_nil, AV.pf, Sc.pf, Bool.and_true, *], ?_⟩
      have lC : (lineC L).length = 64 := by rw [lineC_len, hL]
      cases hf : lfB a n
      · (try simp (config := { maxSteps := 10000000 }) only [go_sem, seval, s_lfits_eq, hf, lgetU]; repeat (simp (disch := omega) only [w64_d, ipos, ineg, dpos, dneg]; try simp (config := { maxSteps := 10000000 }) only [go_sem, seval, s_lfits_eq, hf, lgetU]))
      · obtain ⟨a, n, rfl, rfl, n1, n8, an⟩ := lfB_nat hf
        have e0 : lgetU (lineC L) a n = getN L a n n := by unfold lgetU; rw [if_pos hf, lnT_of]; rfl
        rw [e0]
        (try simp (config := { maxSteps := 10000000 }) only [go_sem, seval, s_lfits_eq, hf]; repeat (simp (disch := omega) only [w64_d, ipos, ineg, dpos, dneg]; try simp (config := { maxSteps := 10000000 }) only [go_sem, seval, s_lfits_eq, hf]))
        refine arun_for n (fun m => ([(1, .c (.i a)), (3, .c (.p 0 0 0)), (8, .c (.u (getN L a n m))), (9, .c (.i ((n : Int) - 1 - m)))], [.own (lineC L)])) ?_ fun m hm => ?_
        · exact Wk.wk (Nat.zero_le _) (by simp [Am.get, getN]) (by simp [AV.bel, Sc.bel]) (subH_refl _) (by simp only [belH, List.all_cons, List.all_nil, AObj.scs, lineC_bel]; rfl)
        · by_cases hlt : m < n
          · have e1 : (0 : Int) ≤ (n : Int) - 1 - m := by omega
            have e2 : w64 ((a : Int) + ((n : Int) - 1 - m)) = ((a + (n - 1 - m) : Nat) : Int) := by rw [w64_d (by omega) (by omega)]; omega
            have e3 : w64 ((n : Int) - 1 - m - 1) = (n : Int) - 1 - ((m + 1 : Nat) : Int) := by rw [w64_d (by omega) (by omega)]; omega
            have c := lineC_get (L_get (L := L) (k := a + (n - 1 - m)) (by omega))
            have e4 : a + (n - 1 - m) < 64 := by omega
            have e5 : a + (n - 1 - m) + 1 ≤ 64 := by omega
            have e6 : getN L a n (m + 1) = (getN L a n m <<< 8) ||| (L.getD (a + (n - 1 - m)) 0#8).setWidth 64 := rfl
            (try simp (config := { maxSteps := 10000000 }) only [go_sem, seval, e1, e2, e3, e4, e5, c, byC, by_u, lC, Int.toNat_natCast]; repeat (simp (disch := omega) only [w64_d, ipos, ineg, dpos, dneg]; try simp (config := { maxSteps := 10000000 }) only [go_sem, seval, e1, e2, e3, e4, e5, c, byC, by_u, lC, Int.toNat_natCast]))
            exact ⟨m + 1, by omega, by omega, Wk.wk (Nat.zero_le _) (by simp [Am.get, e6]) (by simp [AV.bel, Sc.bel]) (subH_refl _) (by simp only [belH, List.all_cons, List.all_nil, AObj.scs, lineC_bel]; rfl)⟩
          · obtain rfl : m = n := by omega
            have e1 : ¬ (0 : Int) ≤ (m : Int) - 1 - m := by omega
            (try simp (config := { maxSteps := 10000000 }) only [go_sem, seval, e1]; repeat (simp (disch := omega) only [w64_d, ipos, ineg, dpos, dneg]; try simp (config := { maxSteps := 10000000 }) only [go_sem, seval, e1]))
    · simp at h
  · simp at h
def s_lput (args : List AV) : Option AV :=
  match args with
  | [.g l, .c (.i a), .c (.i n), .c (.u v)] => if isLn l then some (.t [.g (lputL l a n v), .c (.b (lfB a n))]) else none
  | _ => none
theorem s_lput_eq {l a n v} : s_lput [.g l, .c (.i a), .c (.i n), .c (.u v)] = if isLn l then some (.t [.g (lputL l a n v), .c (.b (lfB a n))]) else none := rfl
set_option maxRecDepth 100000 in
set_option maxHeartbeats 2000000 in
theorem ok_lput : PuOk Tryz.prog 126 s_lput := by
  refine pu_ok (tab := [(99, .pu s_lfits)]) hmix (TabOk.cons (e := .pu s_lfits) ok_lfits TabOk.nil) Tryz.func126 rfl Tryz.results126 Tryz.ntmps126 (by kernel_rfl) (by kernel_rfl) ?_
  intro args v h
  unfold s_lput at h
  split at h
  · rename_i l a n v
    split at h
    · rename_i hc
      simp only [Option.some.injEq] at h; subst h
      obtain ⟨L, hL, rfl⟩ := hc
      have pl := @lineC_pf L
      have pq : (lputL (lineC L) a n v).all Sc.pf = true := by unfold lputL; split <;> exact lineC_pf
      refine ⟨by simp only [List.length_cons, List.length_nil]; decide, by first | rfl | simp only [List.all_cons, List.all_nil, AV.pf, Sc.pf, Bool.and_true, *], by first | rfl | simp only [List.all_cons, List.all_nil, AV.pf, Sc.pf, Bool.and_true, *], ?_⟩
      have lZ : (lineC Z64).length = 64 := by rw [lineC_len]; rfl
      have dZ : (lineC Z64).drop 64 = [] := List.drop_eq_nil_of_le (by omega)
      have lC : (lineC L).length = 64 := by rw [lineC_len, hL]
      have oC := @lineC_one L
      have tC : (lineC L).take 64 = lineC L := by rw [← lC, List.take_length]
      cases hf : lfB a n
      · (try simp (config := { maxSteps := 10000000 }) only [go_sem, seval, s_lfits_eq, hf, lputL, lC, oC, tC, zRow_ln, dZ, lZ]; repeat (simp (disch := omega) only [w64_d, ipos, ineg, dpos, dneg]; try simp (config := { maxSteps := 10000000 }) only [go_sem, seval, s_lfits_eq, hf, lputL, lC, oC, tC, zRow_ln, dZ, lZ]))
      · obtain ⟨a, n, rfl, rfl, n1, n8, an⟩ := lfB_nat hf
        have e0 : lputL (lineC L) a n v = lineC (putN L a v n) := by unfold lputL; rw [if_pos hf, lnT_of]; rfl
        rw [e0]
        (try simp (config := { maxSteps := 10000000 }) only [go_sem, seval, s_lfits_eq, hf, zRow_ln]; repeat (simp (disch := omega) only [w64_d, ipos, ineg, dpos, dneg]; try simp (config := { maxSteps := 10000000 }) only [go_sem, seval, s_lfits_eq, hf, zRow_ln]))
        have bb : ∀ M : List (BitVec 8), belH [.own (lineC M), .own (lineC Z64)] = true := fun M => by simp only [belH, List.all_cons, List.all_nil, AObj.scs, lineC_bel]; rfl
        refine arun_for n (fun m => ([(1, .c (.i a)), (3, .c (.u v)), (4, .c (.p 0 0 0)), (8, .c (.p 1 0 0)), (16, .c (.i n)), (17, .c (.i m))], [.own (lineC (putN L a v m)), .own (lineC Z64)])) ?_ fun m hm => ?_
        · exact Wk.wk (Nat.zero_le _) (by simp [Am.get, putN]) (by simp [AV.bel, Sc.bel]) (subH_refl _) (bb _)
        · have lM : (lineC (putN L a v m)).length = 64 := by rw [lineC_len, putN_len, hL]
          by_cases hlt : m < n
          · have e1 : w64 ((a : Int) + (m : Int)) = ((a + m : Nat) : Int) := by rw [w64_d (by omega) (by omega)]; omega
            have e2 : w64 (8 * (m : Int)) = ((8 * m : Nat) : Int) := by rw [w64_d (by omega) (by omega)]; omega
            have e3 : w64 ((m : Int) + 1) = ((m + 1 : Nat) : Int) := by rw [w64_d (by omega) (by omega)]; omega
            have e4 : (BitVec.ofInt 64 ((8 * m : Nat) : Int)).toNat = 8 * m := ofI_nat (by omega)
            have e5 : wr (lineC (putN L a v m)) (a + m) [.k .u8 (IntKind.u8.wrap ((v >>> (8 * m)).toNat : Int))] = lineC (putN L a v (m + 1)) := by
              rw [u_by, wr_one (by omega), lineC_set]; rfl
            have e6 : a + m < 64 := by omega
            have e7 : a + m + 1 ≤ 64 := by omega
            (try simp (config := { maxSteps := 10000000 }) only [go_sem, seval, e1, e2, e3, e4, e5, e6, e7, lM, Int.toNat_natCast]; repeat (simp (disch := omega) only [w64_d, ipos, ineg, dpos, dneg]; try simp (config := { maxSteps := 10000000 }) only [go_sem, seval, e1, e2, e3, e4, e5, e6, e7, lM, Int.toNat_natCast]))
            exact ⟨m + 1, by omega, by omega, Wk.wk (Nat.zero_le _) (by simp [Am.get]) (by simp [AV.bel, Sc.bel]) (subH_refl _) (bb _)⟩
          · obtain rfl : m = n := by omega
            have oM := @lineC_one (putN L a v m)
            have tM : (lineC (putN L a v m)).take 64 = lineC (putN L a v m) := by rw [← lM, List.take_length]
            (try simp (config := { maxSteps := 10000000 }) only [go_sem, seval, lM, oM, tM, lZ, dZ]; repeat (simp (disch := omega) only [w64_d, ipos, ineg, dpos, dneg]; try simp (config := { maxSteps := 10000000 }) only [go_sem, seval, lM, oM, tM, lZ, dZ]))
    · simp at h
  · simp at h

structure RamS where
  id : Nat
  mid : Nat
  n : Nat
  M : Nat × MapE
def keyC (i : Nat) : AV := .g [.i ((i % 16 : Nat) : Int), .i ((i / 16 : Nat) : Int)]
def entM (e : Nat × Nat × List (BitVec 8)) : Nat × AV × AV := (e.1, keyC e.2.1, .g (lineC e.2.2))
def mapO (M : Nat × MapE) : AObj := .map M.1 (M.2.map entM)
theorem lineC_inj {L M : List (BitVec 8)} (h : lineC L = lineC M) : L = M := by
  have := congrArg lnT h
  rwa [lnT_of, lnT_of] at this
theorem keyC_inj {i j : Nat} (h : keyC i = keyC j) : i = j := by
  simp only [keyC, AV.g.injEq, List.cons.injEq, Sc.i.injEq, and_true] at h
  omega
theorem entM_inj {a b : Nat × Nat × List (BitVec 8)} (h : entM a = entM b) : a = b := by
  obtain ⟨a1, a2, a3⟩ := a
  obtain ⟨b1, b2, b3⟩ := b
  simp only [entM, Prod.mk.injEq] at h
  obtain ⟨h1, h2, h3⟩ := h
  simp only [AV.g.injEq] at h3
  rw [h1, keyC_inj h2, lineC_inj h3]
theorem map_inj {α β : Type} {f : α → β} (hf : ∀ a b, f a = f b → a = b) : ∀ {L M : List α}, L.map f = M.map f → L = M
  | [], [], _ => rfl
  | [], b :: M, h => by simp at h
  | a :: L, [], h => by simp at h
  | a :: L, b :: M, h => by
    simp only [List.map_cons, List.cons.injEq] at h
    rw [hf _ _ h.1, map_inj hf h.2]
theorem mapO_inj {M N : Nat × MapE} (h : mapO M = mapO N) : M = N := by
  simp only [mapO, AObj.map.injEq] at h
  obtain ⟨a, A⟩ := M
  obtain ⟨b, B⟩ := N
  simp only at h
  rw [h.1, map_inj (fun _ _ => entM_inj) h.2]
structure RamIs (H : AH) (x : Sc) (s : RamS) : Prop where
  x : x = .p s.id 0 0
  o : hg H s.id = .own [.i s.n, .mp s.mid]
  m : hg H s.mid = mapO s.M
  w : wfE s.n s.M
  n1 : 1 ≤ s.n
  n2 : s.n ≤ 4096
theorem RamIs.uniq {H : AH} {x : Sc} {s t : RamS} (h : RamIs H x s) (g : RamIs H x t) : s = t := by
  obtain ⟨a, b, c, d⟩ := s
  obtain ⟨a', b', c', d'⟩ := t
  have h1 := h.x.symm.trans g.x
  simp only [Sc.p.injEq, and_true] at h1
  subst h1
  have h2 := h.o.symm.trans g.o
  simp only [AObj.own.injEq, List.cons.injEq, Sc.i.injEq, Sc.mp.injEq, and_true] at h2
  obtain ⟨h3, h4⟩ := h2
  obtain rfl : c = c' := by omega
  subst h4
  obtain rfl : d = d' := mapO_inj (h.m.symm.trans g.m)
  rfl
def ramQ (H : AH) (x : Sc) : Option RamS := open Classical in if h : ∃ s, RamIs H x s then some h.choose else none
theorem ramQ_of {H : AH} {x : Sc} {s : RamS} (h : RamIs H x s) : ramQ H x = some s := by
  unfold ramQ
  have e : ∃ s, RamIs H x s := ⟨s, h⟩
  rw [dif_pos e, RamIs.uniq e.choose_spec h]
theorem ramQ_inv {H : AH} {x : Sc} {s : RamS} (h : ramQ H x = some s) : RamIs H x s := by
  unfold ramQ at h
  split at h
  · rename_i e
    simp only [Option.some.injEq] at h
    rw [← h]; exact e.choose_spec
  · simp at h
theorem RamIs.ne {H : AH} {x : Sc} {s : RamS} (h : RamIs H x s) : s.id ≠ s.mid := fun e => by
  have h1 := h.o
  rw [e, h.m] at h1
  exact AObj.noConfusion h1
theorem RamIs.lid {H : AH} {x : Sc} {s : RamS} (h : RamIs H x s) : s.id < H.length := hg_lt (by rw [h.o]; rfl)
theorem RamIs.lmid {H : AH} {x : Sc} {s : RamS} (h : RamIs H x s) : s.mid < H.length := hg_lt (by rw [h.m]; rfl)
theorem RamIs.app {H : AH} {x : Sc} {s : RamS} (h : RamIs H x s) (X : AH) : RamIs (H ++ X) x s := ⟨h.x, by rw [hg_lt' h.lid]; exact h.o, by rw [hg_lt' h.lmid]; exact h.m, h.w, h.n1, h.n2⟩
def RamS.to (s : RamS) (M : Nat × MapE) : RamS := ⟨s.id, s.mid, s.n, M⟩
theorem RamIs.set {H : AH} {x : Sc} {s : RamS} (h : RamIs H x s) {M : Nat × MapE} (hM : wfE s.n M) : RamIs (H.set s.mid (mapO M)) x (s.to M) :=
  ⟨h.x, by show hg _ s.id = _; rw [hg_set_ne' h.ne.symm]; exact h.o, hg_set_same h.lmid, hM, h.n1, h.n2⟩
theorem RamIs.other {H : AH} {x : Sc} {s : RamS} (h : RamIs H x s) {i : Nat} {o : AObj} (h1 : i ≠ s.id) (h2 : i ≠ s.mid) : RamIs (H.set i o) x s :=
  ⟨h.x, by rw [hg_set_ne' h1]; exact h.o, by rw [hg_set_ne' h2]; exact h.m, h.w, h.n1, h.n2⟩
theorem mapO_bel {M : Nat × MapE} {n : Nat} : (mapO M).scs.all (Sc.bel n) = true := by
  simp only [mapO, AObj.scs, List.flatMap_map, List.all_flatMap, entM, AV.scs, keyC, List.all_append, lineC_bel, List.all_cons, List.all_nil, Sc.bel]
  exact List.all_eq_true.2 fun _ _ => rfl
theorem RamIs.bel {H : AH} {x : Sc} {s : RamS} (h : RamIs H x s) (hH : belH H = true) {M : Nat × MapE} : belH (H.set s.mid (mapO M)) = true := bel_set' hH mapO_bel
theorem RamIs.self {H : AH} {x : Sc} {s : RamS} (h : RamIs H x s) : H.set s.mid (mapO s.M) = H := set_self h.m h.lmid

theorem kEq_place {i j : Nat} : kEq Tryz.prog 182 (keyC i) (keyC j) = some (decide (j = i)) := by
  unfold kEq keyC
  rw [kA182, gT182]
  simp only [csEq, scEq, Option.bind_some, Bool.and_true]
  congr 1
  by_cases h : j = i
  · subst h; simp
  · rw [decide_eq_false h]
    by_cases h1 : i % 16 = j % 16
    · have h2 : ¬ ((i / 16 : Nat) : Int) = ((j / 16 : Nat) : Int) := by omega
      simp only [h2, decide_false, Bool.and_false]
    · have h2 : ¬ ((i % 16 : Nat) : Int) = ((j % 16 : Nat) : Int) := by omega
      simp only [h2, decide_false, Bool.false_and]
theorem find_ram {i : Nat} : ∀ {E : MapE} {k : Nat}, findA Tryz.prog 182 (keyC i) (E.map entM) k = some ((lookE E i k).map fun p => (p.1, AV.g (lineC p.2)))
  | [], _ => rfl
  | e :: E, k => by
    simp only [List.map_cons, findA, lookE, entM, kEq_place]
    by_cases h : e.2.1 = i
    · simp only [h, decide_true, if_true, Option.map_some]
    · simp only [h, decide_false, if_false]
      exact find_ram
theorem ent_upd {M : Nat × MapE} {i j : Nat} {L L2 : List (BitVec 8)} (h : lookE M.2 i 0 = some (j, L2)) : AObj.map M.1 ((M.2.map entM).set j (((M.2.map entM).getD j (0, keyC i, .g (lineC L))).1, keyC i, .g (lineC L))) = mapO (setE M i L) := by
  obtain ⟨b, hb⟩ := lookE_some h
  have e : (M.2.map entM).getD j (0, keyC i, AV.g (lineC L)) = entM (b, i, L2) := by rw [List.getD_eq_getElem?_getD, List.getElem?_map, hb]; rfl
  have e2 : M.2.getD j (0, i, L) = (b, i, L2) := by rw [List.getD_eq_getElem?_getD, hb]; rfl
  simp only [setE, h, mapO, e, e2, List.map_set]
  rfl
theorem ent_new {M : Nat × MapE} {i : Nat} {L : List (BitVec 8)} (h : lookE M.2 i 0 = none) : AObj.map (M.1 + 1) (M.2.map entM ++ [(M.1, keyC i, .g (lineC L))]) = mapO (setE M i L) := by
  simp only [setE, h, mapO, List.map_append]; rfl
theorem map_erase {α β : Type} {f : α → β} {L : List α} {j : Nat} : (L.map f).eraseIdx j = (L.eraseIdx j).map f := by
  induction L generalizing j with
  | nil => rfl
  | cons e E ih =>
    cases j with
    | zero => rfl
    | succ j => simp only [List.eraseIdx_cons_succ, List.map_cons, ih]
theorem ent_del {M : Nat × MapE} {i j : Nat} {L2 : List (BitVec 8)} (h : lookE M.2 i 0 = some (j, L2)) : AObj.map M.1 ((M.2.map entM).eraseIdx j) = mapO (delE M i) := by
  simp only [delE, h, mapO, map_erase]
theorem gT_line : tagsT Tryz.prog 12 121 = some (List.replicate 64 .n) := by kernel_rfl
theorem csEq_by : ∀ {L M : List (BitVec 8)}, L.length = M.length → csEq (List.replicate L.length .n) (lineC L) (lineC M) = some (decide (L = M))
  | [], [], _ => rfl
  | [], b :: M, h => by simp at h
  | a :: L, [], h => by simp at h
  | a :: L, b :: M, h => by
    have ih := csEq_by (L := L) (M := M) (by simpa using h)
    have e : scEq .n (byC a) (byC b) = some (decide (a = b)) := by
      simp only [byC, scEq, if_true]
      congr 1
      by_cases h : a = b
      · subst h; simp
      · have : ¬ ((a.toNat : Nat) : Int) = ((b.toNat : Nat) : Int) := fun e => h (BitVec.eq_of_toNat_eq (by omega))
        simp only [this, h, decide_false]
    simp only [lineC, List.length_cons, List.replicate_succ, List.map_cons, csEq] at ih ⊢
    rw [e, ih]
    simp only [List.cons.injEq]
    congr 1
    by_cases h1 : a = b <;> by_cases h2 : L = M <;> simp [h1, h2]
theorem ab_line {L M : List (BitVec 8)} (h1 : L.length = 64) (h2 : M.length = 64) : abin Tryz.prog .eql 121 (.g (lineC L)) (.g (lineC M)) = some (.c (.b (decide (L = M)))) := by
  rw [ab_g_eql _ (by simp only [dT121, D.agg]) gT_line]
  have := csEq_by (h1.trans h2.symm)
  rw [h1] at this
  rw [this]; rfl
def s_rof10 (args : List AV) : Option AV :=
  match args with
  | [.c (.i i)] => if 0 ≤ i ∧ i ≤ 4096 then some (keyC i.toNat) else none
  | _ => none
theorem s_rof10_eq {i} : s_rof10 [.c (.i i)] = if 0 ≤ i ∧ i ≤ 4096 then some (keyC i.toNat) else none := rfl
set_option maxRecDepth 100000 in
set_option maxHeartbeats 2000000 in
theorem ok_rof10 : PuOk Tryz.prog 98 s_rof10 := by
  refine pu_ok (tab := []) hmix TabOk.nil Tryz.func98 rfl Tryz.results98 Tryz.ntmps98 (by kernel_rfl) (by kernel_rfl) ?_
  intro args v h
  unfold s_rof10 at h
  split at h
  · rename_i i
    split at h
    · rename_i hc
      simp only [Option.some.injEq] at h; subst h
      refine ⟨by simp only [List.length_cons, List.length_nil]; decide, rfl, rfl, ?_⟩
      obtain ⟨k, rfl⟩ := Int.eq_ofNat_of_zero_le hc.1
      have e1 : (k : Int).tmod 16 = ((k % 16 : Nat) : Int) := by rw [Int.tmod_eq_emod_of_nonneg (by omega)]; omega
      have e2 : w64 ((k : Int).tdiv 16) = ((k / 16 : Nat) : Int) := by rw [Int.tdiv_eq_ediv_of_nonneg (by omega), w64_d (by omega) (by omega)]; omega
      (try simp (config := { maxSteps := 10000000 }) only [go_sem, seval, e1, e2, keyC, Int.toNat_natCast]; repeat (simp (disch := omega) only [w64_d, ipos, ineg, dpos, dneg]; try simp (config := { maxSteps := 10000000 }) only [go_sem, seval, e1, e2, keyC, Int.toNat_natCast]))
    · simp at h
  · simp at h
def s_rlines10 (args : List AV) (H : AH) : Option AV :=
  match args with
  | [.c x] => (ramQ H x).map fun s => .c (.i s.n)
  | _ => none
theorem s_rlines10_eq {H : AH} {x : Sc} {s : RamS} (h : RamIs H x s) : s_rlines10 [.c x] H = some (.c (.i s.n)) := by simp only [s_rlines10, ramQ_of h, Option.map_some]
set_option maxRecDepth 100000 in
set_option maxHeartbeats 2000000 in
theorem ok_rlines10 : FpOk Tryz.prog 97 (fun args H => (s_rlines10 args H).map fun v => (v, H)) := by
  refine fq_ok (s := s_rlines10) (tab := []) hmix TabOk.nil Tryz.func97 rfl Tryz.results97 Tryz.ntmps97 (by kernel_rfl) (by kernel_rfl) ?_
  intro args H v h hargs hH
  unfold s_rlines10 at h
  split at h
  · rename_i x
    rw [Option.map_eq_some_iff] at h
    obtain ⟨s, hs, rfl⟩ := h
    refine ⟨by simp only [List.length_cons, List.length_nil]; decide, rfl, ?_⟩
    have hR := ramQ_inv hs
    obtain ⟨rfl, ho, -⟩ := hR
    (try simp (config := { maxSteps := 10000000 }) only [go_sem, seval, ho]; repeat (simp (disch := omega) only [w64_d, ipos, ineg, dpos, dneg]; try simp (config := { maxSteps := 10000000 }) only [go_sem, seval, ho]))
    exact subH_refl _
  · simp at h

theorem op_lookup {t : Nat} {x y : Operand} {q : Bool} : opnds (.lookup t x y q) = [x, y] := rfl
theorem op_mapUpdate {t : Nat} {x y z : Operand} : opnds (.mapUpdate t x y z) = [x, y, z] := rfl
theorem sT_map : szT Tryz.prog 161 = 1 := by kernel_rfl
theorem dT_map : dT Tryz.prog 161 = .other := by kernel_rfl
attribute [go_sem] sT_map dT_map op_lookup op_mapUpdate AV.flat1

def inN (n : Nat) (i : Int) : Bool := decide (0 ≤ i) && decide (i < n)
theorem inN_nat {n : Nat} {i : Int} (h : inN n i = true) : ∃ k : Nat, i = k ∧ k < n := by
  simp only [inN, Bool.and_eq_true, decide_eq_true_eq] at h
  exact ⟨i.toNat, by omega, by omega⟩
def lineI (s : RamS) (i : Int) : List (BitVec 8) := if inN s.n i = true then lineE s.M.2 i.toNat else Z64
theorem kOk_key {i : Nat} : kOk Tryz.prog 182 (keyC i) = true := by rw [keyC, kOkG182]; rfl
theorem Z64_len : Z64.length = 64 := by unfold Z64; exact List.length_replicate
def s_rline10 (args : List AV) (H : AH) : Option AV :=
  match args with
  | [.c x, .c (.i i)] => (ramQ H x).map fun s => .g (lineC (lineI s i))
  | _ => none
theorem s_rline10_eq {H : AH} {x : Sc} {i : Int} {s : RamS} (h : RamIs H x s) : s_rline10 [.c x, .c (.i i)] H = some (.g (lineC (lineI s i))) := by simp only [s_rline10, ramQ_of h, Option.map_some]
set_option maxRecDepth 100000 in
set_option maxHeartbeats 2000000 in
theorem ok_rline10 : FpOk Tryz.prog 60 (fun args H => (s_rline10 args H).map fun v => (v, H)) := by
  refine fq_ok (s := s_rline10) (tab := [(97, .fq s_rlines10), (98, .pu s_rof10)]) hmix (TabOk.cons (e := .fq s_rlines10) ok_rlines10 (TabOk.cons (e := .pu s_rof10) ok_rof10 TabOk.nil)) Tryz.func60 rfl Tryz.results60 Tryz.ntmps60 (by kernel_rfl) (by kernel_rfl) ?_
  intro args H v h hargs hH
  unfold s_rline10 at h
  split at h
  · rename_i x i
    rw [Option.map_eq_some_iff] at h
    obtain ⟨s, hs, rfl⟩ := h
    refine ⟨by simp only [List.length_cons, List.length_nil]; decide, by simp only [AV.bel]; exact lineC_bel, ?_⟩
    have hR := ramQ_inv hs
    have p1 := fun X => s_rlines10_eq (hR.app X)
    have oX := fun X => (hR.app X).o
    have mX := fun X => (hR.app X).m
    have zl : (lineC Z64).length = 64 := by rw [lineC_len, Z64_len]
    have dZ : (lineC Z64).drop 64 = [] := List.drop_eq_nil_of_le (by omega)
    have oZ := @lineC_one Z64
    have tZ : (lineC Z64).take 64 = lineC Z64 := by rw [← zl, List.take_length]
    obtain ⟨rfl, ho, hm, hw, n1, n2⟩ := hR
    have fin : ∀ (L : List (BitVec 8)), subH H (H ++ [.own (lineC L)]) := fun L => subH_app _ _
    cases hi : inN s.n i
    · have e0 : lineI s i = Z64 := by unfold lineI; rw [if_neg (by simp [hi])]
      rw [e0]
      by_cases h0 : i < 0
      · (try simp (config := { maxSteps := 10000000 }) only [go_sem, seval, s_rlines10_eq, s_rof10_eq, zRow_ln, h0, zl, dZ, oZ, tZ]; repeat (simp (disch := omega) only [w64_d, ipos, ineg, dpos, dneg]; try simp (config := { maxSteps := 10000000 }) only [go_sem, seval, s_rlines10_eq, s_rof10_eq, zRow_ln, h0, zl, dZ, oZ, tZ]))
        exact fin _
      · have h1 : (s.n : Int) ≤ i := by simp only [inN, Bool.and_eq_false_iff, decide_eq_false_iff_not] at hi; omega
        (try simp (config := { maxSteps := 10000000 }) only [go_sem, seval, s_rlines10_eq, s_rof10_eq, zRow_ln, h0, h1, p1, zl, dZ, oZ, tZ]; repeat (simp (disch := omega) only [w64_d, ipos, ineg, dpos, dneg]; try simp (config := { maxSteps := 10000000 }) only [go_sem, seval, s_rlines10_eq, s_rof10_eq, zRow_ln, h0, h1, p1, zl, dZ, oZ, tZ]))
        exact fin _
    · obtain ⟨k, rfl, hk⟩ := inN_nat hi
      have e0 : lineI s k = lineE s.M.2 k := by unfold lineI; rw [if_pos hi]; rfl
      have h0 : ¬ (k : Int) < 0 := by omega
      have h1 : ¬ (s.n : Int) ≤ (k : Int) := by omega
      have hc : (0 : Int) ≤ k ∧ (k : Int) ≤ 4096 := by omega
      have f1 := find_ram (i := k) (E := s.M.2) (k := 0)
      rw [e0]
      unfold lineE
      cases hl : lookE s.M.2 k 0 with
      | none =>
        rw [hl] at f1
        simp only [Option.map_none] at f1
        (try simp (config := { maxSteps := 10000000 }) only [go_sem, seval, s_rlines10_eq, s_rof10_eq, zRow_ln, h0, h1, p1, oX, mX, mapO, hc, f1, kOk_key, Int.toNat_natCast, zl, dZ, oZ, tZ]; repeat (simp (disch := omega) only [w64_d, ipos, ineg, dpos, dneg]; try simp (config := { maxSteps := 10000000 }) only [go_sem, seval, s_rlines10_eq, s_rof10_eq, zRow_ln, h0, h1, p1, oX, mX, mapO, hc, f1, kOk_key, Int.toNat_natCast, zl, dZ, oZ, tZ]))
        exact ⟨by repeat' first | apply And.intro | (intro _; kernel_rfl) | kernel_rfl, fin _⟩
      | some p =>
        rw [hl] at f1
        simp only [Option.map_some] at f1
        obtain ⟨j, L⟩ := p
        have hL : (lineC L).length = 64 := by
          obtain ⟨b, hb⟩ := lookE_some hl
          rw [lineC_len]; exact (hw.2 _ (List.mem_of_getElem? hb)).2
        have oL := @lineC_one L
        have tL : (lineC L).take 64 = lineC L := by rw [← hL, List.take_length]
        (try simp (config := { maxSteps := 10000000 }) only [go_sem, seval, s_rlines10_eq, s_rof10_eq, zRow_ln, h0, h1, p1, oX, mX, mapO, hc, f1, kOk_key, Int.toNat_natCast, zl, dZ, hL, oL, tL]; repeat (simp (disch := omega) only [w64_d, ipos, ineg, dpos, dneg]; try simp (config := { maxSteps := 10000000 }) only [go_sem, seval, s_rlines10_eq, s_rof10_eq, zRow_ln, h0, h1, p1, oX, mX, mapO, hc, f1, kOk_key, Int.toNat_natCast, zl, dZ, hL, oL, tL]))
        exact ⟨by repeat' first | apply And.intro | (intro _; kernel_rfl) | kernel_rfl, fin _⟩
  · simp at h
def setRm (H : AH) (s : RamS) (i : Int) (L : List (BitVec 8)) : AH := if inN s.n i = true then H.set s.mid (mapO (stE s.M i.toNat L)) else H
theorem setRm_len {H : AH} {s : RamS} {i : Int} {L : List (BitVec 8)} : (setRm H s i L).length = H.length := by unfold setRm; split <;> simp
def s_rsetl (args : List AV) (H : AH) : Option (AV × AH) :=
  match args with
  | [.c x, .c (.i i), .g cs] => match ramQ H x with
    | some s => if isLn cs then some (.c (.b (inN s.n i)), setRm H s i (lnT cs)) else none
    | none => none
  | _ => none
theorem s_rsetl_eq {H : AH} {x : Sc} {i : Int} {s : RamS} {L : List (BitVec 8)} (h : RamIs H x s) (hL : L.length = 64) : s_rsetl [.c x, .c (.i i), .g (lineC L)] H = some (.c (.b (inN s.n i)), setRm H s i L) := by
  have : isLn (lineC L) := ⟨L, hL, rfl⟩
  simp only [s_rsetl, ramQ_of h, this, if_true, lnT_of]
theorem len_rsetl (args : List AV) (H : AH) (v : AV) (H1 : AH) (h : s_rsetl args H = some (v, H1)) : H.length ≤ H1.length := by
  unfold s_rsetl at h
  repeat' split at h
  all_goals simp at h
  rw [← h.2, setRm_len]; exact Nat.le_refl _
set_option maxRecDepth 100000 in
set_option maxHeartbeats 2000000 in
theorem ok_rsetl : FpOk Tryz.prog 127 s_rsetl := by
  refine fp_ok (s := s_rsetl) (tab := [(97, .fq s_rlines10), (98, .pu s_rof10)]) hmix (TabOk.cons (e := .fq s_rlines10) ok_rlines10 (TabOk.cons (e := .pu s_rof10) ok_rof10 TabOk.nil)) Tryz.func127 rfl Tryz.results127 Tryz.ntmps127 (by kernel_rfl) (by kernel_rfl) len_rsetl ?_
  intro args H v H1 h hargs hH
  unfold s_rsetl at h
  split at h
  · rename_i x i cs
    split at h
    · rename_i s hs
      split at h
      · rename_i hln
        obtain ⟨L, hL, rfl⟩ := hln
        simp only [Option.some.injEq, Prod.mk.injEq] at h
        obtain ⟨rfl, rfl⟩ := h
        rw [lnT_of]
        refine ⟨by simp only [List.length_cons, List.length_nil]; decide, ?_⟩
        have hR := ramQ_inv hs
        have p1 := fun X => s_rlines10_eq (hR.app X)
        have oX := fun X => (hR.app X).o
        have mX := fun X => (hR.app X).m
        have lmid := hR.lmid
        have lid := hR.lid
        have bb := fun M => hR.bel hH (M := M)
        have slf := hR.self
        obtain ⟨rfl, ho, hm, hw, n1, n2⟩ := hR
        have lL : (lineC L).length = 64 := by rw [lineC_len, hL]
        have tL : (lineC L).take 64 = lineC L := by rw [← lL, List.take_length]
        have aL := ab_line hL Z64_len
        have sx : ∀ (X : AH) (o : AObj), (H ++ X).set s.mid o = H.set s.mid o ++ X := fun X o => List.set_append_left _ _ lmid
        cases hi : inN s.n i
        · have e0 : setRm H s i L = H := by unfold setRm; rw [if_neg (by simp [hi])]
          rw [e0]
          by_cases h0 : i < 0
          · (try simp (config := { maxSteps := 10000000 }) only [go_sem, seval, s_rlines10_eq, s_rof10_eq, h0]; repeat (simp (disch := omega) only [w64_d, ipos, ineg, dpos, dneg]; try simp (config := { maxSteps := 10000000 }) only [go_sem, seval, s_rlines10_eq, s_rof10_eq, h0]))
            exact fin_fp rfl (subH_app _ _) hH (Nat.le_refl _)
          · have h1 : (s.n : Int) ≤ i := by simp only [inN, Bool.and_eq_false_iff, decide_eq_false_iff_not] at hi; omega
            (try simp (config := { maxSteps := 10000000 }) only [go_sem, seval, s_rlines10_eq, s_rof10_eq, h0, h1, p1]; repeat (simp (disch := omega) only [w64_d, ipos, ineg, dpos, dneg]; try simp (config := { maxSteps := 10000000 }) only [go_sem, seval, s_rlines10_eq, s_rof10_eq, h0, h1, p1]))
            exact fin_fp rfl (subH_app _ _) hH (Nat.le_refl _)
        · obtain ⟨k, rfl, hk⟩ := inN_nat hi
          have e0 : setRm H s k L = H.set s.mid (mapO (stE s.M k L)) := by unfold setRm; rw [if_pos hi]; rfl
          have h0 : ¬ (k : Int) < 0 := by omega
          have h1 : ¬ (s.n : Int) ≤ (k : Int) := by omega
          have hc : (0 : Int) ≤ k ∧ (k : Int) ≤ 4096 := by omega
          have f1 := find_ram (i := k) (E := s.M.2) (k := 0)
          rw [e0]
          by_cases hz : L = Z64
          · subst hz
            have e1 : stE s.M k Z64 = delE s.M k := by unfold stE; rw [if_pos rfl]
            rw [e1]
            cases hl : lookE s.M.2 k 0 with
            | none =>
              rw [hl] at f1
              simp only [Option.map_none] at f1
              have e2 : delE s.M k = s.M := by unfold delE; rw [hl]
              rw [e2, slf]
              (try simp (config := { maxSteps := 10000000 }) only [go_sem, seval, s_rlines10_eq, s_rof10_eq, zRow_ln, h0, h1, p1, oX, mX, mapO, hc, f1, kOk_key, Int.toNat_natCast, lL, tL, aL]; repeat (simp (disch := omega) only [w64_d, ipos, ineg, dpos, dneg]; try simp (config := { maxSteps := 10000000 }) only [go_sem, seval, s_rlines10_eq, s_rof10_eq, zRow_ln, h0, h1, p1, oX, mX, mapO, hc, f1, kOk_key, Int.toNat_natCast, lL, tL, aL]))
              exact fin_fp rfl (subH_app _ _) hH (Nat.le_refl _)
            | some p =>
              rw [hl] at f1
              simp only [Option.map_some] at f1
              obtain ⟨j, L2⟩ := p
              have e2 := ent_del hl
              have b2 := bb (delE s.M k)
              rw [← e2] at b2 ⊢
              (try simp (config := { maxSteps := 10000000 }) only [go_sem, seval, s_rlines10_eq, s_rof10_eq, zRow_ln, h0, h1, p1, oX, mX, mapO, hc, f1, kOk_key, Int.toNat_natCast, lL, tL, aL, sx]; repeat (simp (disch := omega) only [w64_d, ipos, ineg, dpos, dneg]; try simp (config := { maxSteps := 10000000 }) only [go_sem, seval, s_rlines10_eq, s_rof10_eq, zRow_ln, h0, h1, p1, oX, mX, mapO, hc, f1, kOk_key, Int.toNat_natCast, lL, tL, aL, sx]))
              exact ⟨by repeat' first | apply And.intro | (intro _; kernel_rfl) | kernel_rfl, fin_fp rfl (subH_app _ _) b2 (by simp)⟩
          · have e1 : stE s.M k L = setE s.M k L := by unfold stE; rw [if_neg hz]
            rw [e1]
            cases hl : lookE s.M.2 k 0 with
            | none =>
              rw [hl] at f1
              simp only [Option.map_none] at f1
              have e2 := ent_new (L := L) hl
              have b2 := bb (setE s.M k L)
              rw [← e2] at b2 ⊢
              (try simp (config := { maxSteps := 10000000 }) only [go_sem, seval, s_rlines10_eq, s_rof10_eq, zRow_ln, h0, h1, p1, oX, mX, mapO, hc, f1, kOk_key, Int.toNat_natCast, lL, tL, aL, hz, sx]; repeat (simp (disch := omega) only [w64_d, ipos, ineg, dpos, dneg]; try simp (config := { maxSteps := 10000000 }) only [go_sem, seval, s_rlines10_eq, s_rof10_eq, zRow_ln, h0, h1, p1, oX, mX, mapO, hc, f1, kOk_key, Int.toNat_natCast, lL, tL, aL, hz, sx]))
              exact ⟨by repeat' first | apply And.intro | (intro _; kernel_rfl) | kernel_rfl, fin_fp rfl (subH_app _ _) b2 (by simp)⟩
            | some p =>
              rw [hl] at f1
              simp only [Option.map_some] at f1
              obtain ⟨j, L2⟩ := p
              have e2 := ent_upd (L := L) hl
              have b2 := bb (setE s.M k L)
              rw [← e2] at b2 ⊢
              (try simp (config := { maxSteps := 10000000 }) only [go_sem, seval, s_rlines10_eq, s_rof10_eq, zRow_ln, h0, h1, p1, oX, mX, mapO, hc, f1, kOk_key, Int.toNat_natCast, lL, tL, aL, hz, sx]; repeat (simp (disch := omega) only [w64_d, ipos, ineg, dpos, dneg]; try simp (config := { maxSteps := 10000000 }) only [go_sem, seval, s_rlines10_eq, s_rof10_eq, zRow_ln, h0, h1, p1, oX, mX, mapO, hc, f1, kOk_key, Int.toNat_natCast, lL, tL, aL, hz, sx]))
              exact ⟨by repeat' first | apply And.intro | (intro _; kernel_rfl) | kernel_rfl, fin_fp rfl (subH_app _ _) b2 (by simp)⟩
      · simp at h
    · simp at h
  · simp at h

theorem zl64 : (lineC Z64).length = 64 := by rw [lineC_len, Z64_len]
theorem dz64 : (lineC Z64).drop 64 = [] := List.drop_eq_nil_of_le (Nat.le_of_eq zl64)
theorem base_nat {a : BitVec 64} (h : 2147483648 ≤ a.toNat) : (a - 2147483648#64).toNat = offN a := by
  have e : (2147483648#64).toNat = 2147483648 := rfl
  rw [offN_eq]
  rw [BitVec.toNat_sub, e]
  have := a.isLt
  omega
def s_rhas10 (args : List AV) (H : AH) : Option AV :=
  match args with
  | [.c x, .c (.u a), .c (.i n)] => match ramQ H x with
    | some s => if inR n then some (.c (.b (hasB s.n a n))) else none
    | none => none
  | _ => none
theorem s_rhas10_eq {H : AH} {x : Sc} {a : BitVec 64} {n : Int} {s : RamS} (h : RamIs H x s) (hn : inR n) : s_rhas10 [.c x, .c (.u a), .c (.i n)] H = some (.c (.b (hasB s.n a n))) := by simp only [s_rhas10, ramQ_of h, hn, if_true]
set_option maxRecDepth 100000 in
set_option maxHeartbeats 2000000 in
theorem ok_rhas10 : FpOk Tryz.prog 58 (fun args H => (s_rhas10 args H).map fun v => (v, H)) := by
  refine fq_ok (s := s_rhas10) (tab := [(97, .fq s_rlines10)]) hmix (TabOk.cons (e := .fq s_rlines10) ok_rlines10 TabOk.nil) Tryz.func58 rfl Tryz.results58 Tryz.ntmps58 (by kernel_rfl) (by kernel_rfl) ?_
  intro args H v h hargs hH
  unfold s_rhas10 at h
  split at h
  · rename_i x a n
    split at h
    · rename_i s hs
      split at h
      · rename_i hn
        simp only [Option.some.injEq] at h
        subst h
        refine ⟨by simp only [List.length_cons, List.length_nil]; decide, rfl, ?_⟩
        have hR := ramQ_inv hs
        have p1 := s_rlines10_eq hR
        obtain ⟨i1, i2⟩ := hn
        have n1 := hR.n1
        have n2 := hR.n2
        by_cases h1 : n < 1
        · have e : hasB s.n a n = false := by unfold hasB; rw [decide_eq_false (by omega)]; rfl
          (try simp (config := { maxSteps := 10000000 }) only [go_sem, seval, s_rlines10_eq, h1, e]; repeat (simp (disch := omega) only [w64_d, ipos, ineg, dpos, dneg]; try simp (config := { maxSteps := 10000000 }) only [go_sem, seval, s_rlines10_eq, h1, e]))
          exact subH_refl _
        have eb : (a < 2147483648#64) = (a.toNat < 2147483648) := by rw [BitVec.lt_def]; rfl
        by_cases h2 : a.toNat < 2147483648
        · have e : hasB s.n a n = false := by unfold hasB; rw [decide_eq_false (show ¬ 2147483648 ≤ a.toNat by omega)]; simp
          (try simp (config := { maxSteps := 10000000 }) only [go_sem, seval, s_rlines10_eq, h1, eb, h2, e]; repeat (simp (disch := omega) only [w64_d, ipos, ineg, dpos, dneg]; try simp (config := { maxSteps := 10000000 }) only [go_sem, seval, s_rlines10_eq, h1, eb, h2, e]))
          exact subH_refl _
        have h3 := base_nat (a := a) (by omega)
        have e0 : (BitVec.ofInt 64 (s.n : Int) * 64#64).toNat = 64 * s.n := by
          rw [BitVec.toNat_mul, BitVec.toNat_ofInt]
          have : (64#64).toNat = 64 := rfl
          rw [this]; omega
        have e1 : (a - 2147483648#64 < BitVec.ofInt 64 (s.n : Int) * 64#64) = (offN a < 64 * s.n) := by rw [BitVec.lt_def, h3, e0]
        by_cases h4 : offN a < 64 * s.n
        · have e3 : (BitVec.ofInt 64 n).toNat = n.toNat := by rw [BitVec.toNat_ofInt]; omega
          have e2 : (BitVec.ofInt 64 n ≤ BitVec.ofInt 64 (s.n : Int) * 64#64 - (a - 2147483648#64)) = (n ≤ ((64 * s.n - offN a : Nat) : Int)) := by
            rw [BitVec.le_def, BitVec.toNat_sub, h3, e0, e3]
            apply propext
            omega
          have e : hasB s.n a n = decide (n ≤ ((64 * s.n - offN a : Nat) : Int)) := by unfold hasB; rw [decide_eq_true (by omega), decide_eq_true (by omega), decide_eq_true h4]; simp
          (try simp (config := { maxSteps := 10000000 }) only [go_sem, seval, s_rlines10_eq, h1, eb, h2, e1, h4, p1, e2, e]; repeat (simp (disch := omega) only [w64_d, ipos, ineg, dpos, dneg]; try simp (config := { maxSteps := 10000000 }) only [go_sem, seval, s_rlines10_eq, h1, eb, h2, e1, h4, p1, e2, e]))
          exact subH_refl _
        · have e : hasB s.n a n = false := by unfold hasB; rw [decide_eq_false h4]; simp
          (try simp (config := { maxSteps := 10000000 }) only [go_sem, seval, s_rlines10_eq, h1, eb, h2, e1, h4, p1, e]; repeat (simp (disch := omega) only [w64_d, ipos, ineg, dpos, dneg]; try simp (config := { maxSteps := 10000000 }) only [go_sem, seval, s_rlines10_eq, h1, eb, h2, e1, h4, p1, e]))
          exact subH_refl _
      · simp at h
    · simp at h
  · simp at h
def inMem (a : BitVec 64) : Bool := decide (2147483648 ≤ a.toNat) && decide (offN a < 262144)
theorem hasB_mem {N : Nat} {a : BitVec 64} {n : Int} (hN : N ≤ 4096) (h : hasB N a n = true) : inMem a = true := by
  rw [hasB_iff] at h
  simp only [inMem, Bool.and_eq_true, decide_eq_true_eq]
  omega
def s_rspl10 (args : List AV) : Option AV :=
  match args with
  | [.c (.u a), .c (.i n)] => if inMem a = true then some (.t [.c (.i ((offN a / 64 : Nat) : Int)), .c (.i ((offN a % 64 : Nat) : Int)), .c (.i (min n ((64 - offN a % 64 : Nat) : Int)))]) else none
  | _ => none
theorem s_rspl10_eq {a n} : s_rspl10 [.c (.u a), .c (.i n)] = if inMem a = true then some (.t [.c (.i ((offN a / 64 : Nat) : Int)), .c (.i ((offN a % 64 : Nat) : Int)), .c (.i (min n ((64 - offN a % 64 : Nat) : Int)))]) else none := rfl
set_option maxRecDepth 100000 in
set_option maxHeartbeats 2000000 in
theorem ok_rspl10 : PuOk Tryz.prog 59 s_rspl10 := by
  refine pu_ok (tab := []) hmix TabOk.nil Tryz.func59 rfl Tryz.results59 Tryz.ntmps59 (by kernel_rfl) (by kernel_rfl) ?_
  intro args v h
  unfold s_rspl10 at h
  split at h
  · rename_i a n
    split at h
    · rename_i hc
      simp only [Option.some.injEq] at h; subst h
      refine ⟨by simp only [List.length_cons, List.length_nil]; decide, rfl, rfl, ?_⟩
      simp only [inMem, Bool.and_eq_true, decide_eq_true_eq] at hc
      have h3 := base_nat (a := a) (by omega)
      have e0 : (a - 2147483648#64).toInt = (offN a : Int) := by rw [BitVec.toInt_eq_toNat_cond, h3, if_pos (by omega)]
      have e1 : w64 ((offN a : Int).tdiv 64) = ((offN a / 64 : Nat) : Int) := by rw [Int.tdiv_eq_ediv_of_nonneg (by omega), w64_d (by omega) (by omega)]; omega
      have e2 : (offN a : Int).tmod 64 = ((offN a % 64 : Nat) : Int) := by rw [Int.tmod_eq_emod_of_nonneg (by omega)]; omega
      have e3 : w64 (64 - ((offN a % 64 : Nat) : Int)) = ((64 - offN a % 64 : Nat) : Int) := by rw [w64_d (by omega) (by omega)]; omega
      (try simp (config := { maxSteps := 10000000 }) only [go_sem, seval, e0, e1, e2, e3]; repeat (simp (disch := omega) only [w64_d, ipos, ineg, dpos, dneg]; try simp (config := { maxSteps := 10000000 }) only [go_sem, seval, e0, e1, e2, e3]))
    · simp at h
  · simp at h
def ldB (s : RamS) (a : BitVec 64) (n : Int) : Bool := decide (n ≤ 8) && hasB s.n a n
def ldU (s : RamS) (a : BitVec 64) (n : Int) : BitVec 64 := if ldB s a n = true then rdB (memB s.M.2) (offN a) n.toNat else 0#64
def s_rload10 (args : List AV) (H : AH) : Option AV :=
  match args with
  | [.c x, .c (.u a), .c (.i n)] => match ramQ H x with
    | some s => if inR n then some (.t [.c (.u (ldU s a n)), .c (.b (ldB s a n))]) else none
    | none => none
  | _ => none
theorem s_rload10_eq {H : AH} {x : Sc} {a : BitVec 64} {n : Int} {s : RamS} (h : RamIs H x s) (hn : inR n) : s_rload10 [.c x, .c (.u a), .c (.i n)] H = some (.t [.c (.u (ldU s a n)), .c (.b (ldB s a n))]) := by simp only [s_rload10, ramQ_of h, hn, if_true]
theorem lineI_in {s : RamS} {k : Nat} (h : k < s.n) : lineI s (k : Int) = lineE s.M.2 k := by
  unfold lineI
  rw [if_pos (by simp only [inN, Bool.and_eq_true, decide_eq_true_eq]; omega)]; rfl
set_option maxRecDepth 100000 in
set_option maxHeartbeats 2000000 in
theorem ok_rload10 : FpOk Tryz.prog 28 (fun args H => (s_rload10 args H).map fun v => (v, H)) := by
  refine fq_ok (s := s_rload10) (tab := [(58, .fq s_rhas10), (59, .pu s_rspl10), (60, .fq s_rline10), (61, .pu s_lget)]) hmix (TabOk.cons (e := .fq s_rhas10) ok_rhas10 (TabOk.cons (e := .pu s_rspl10) ok_rspl10 (TabOk.cons (e := .fq s_rline10) ok_rline10 (TabOk.cons (e := .pu s_lget) ok_lget TabOk.nil)))) Tryz.func28 rfl Tryz.results28 Tryz.ntmps28 (by kernel_rfl) (by kernel_rfl) ?_
  intro args H v h hargs hH
  unfold s_rload10 at h
  split at h
  · rename_i x a n
    split at h
    · rename_i s hs
      split at h
      · rename_i hn
        simp only [Option.some.injEq] at h
        subst h
        refine ⟨by simp only [List.length_cons, List.length_nil]; decide, rfl, ?_⟩
        have hR := ramQ_inv hs
        have p1 := s_rhas10_eq (a := a) hR hn
        have p2 := fun i => s_rline10_eq (i := i) hR
        have n1 := hR.n1
        have n2 := hR.n2
        by_cases h1 : 8 < n
        · have e : ldB s a n = false := by unfold ldB; rw [decide_eq_false (by omega)]; rfl
          (try simp (config := { maxSteps := 10000000 }) only [go_sem, seval, h1, e, ldU]; repeat (simp (disch := omega) only [w64_d, ipos, ineg, dpos, dneg]; try simp (config := { maxSteps := 10000000 }) only [go_sem, seval, h1, e, ldU]))
          exact subH_refl _
        cases h2 : hasB s.n a n
        · have e : ldB s a n = false := by unfold ldB; rw [h2]; simp
          (try simp (config := { maxSteps := 10000000 }) only [go_sem, seval, h1, p1, h2, e, ldU]; repeat (simp (disch := omega) only [w64_d, ipos, ineg, dpos, dneg]; try simp (config := { maxSteps := 10000000 }) only [go_sem, seval, h1, p1, h2, e, ldU]))
          exact subH_refl _
        · have e : ldB s a n = true := by unfold ldB; rw [h2, decide_eq_true (by omega)]; rfl
          have hm := hasB_mem n2 h2
          have h2' := h2
          rw [hasB_iff] at h2'
          obtain ⟨m, rfl⟩ := Int.eq_ofNat_of_zero_le (show 0 ≤ n by omega)
          have eU : ldU s a m = rdB (memB s.M.2) (offN a) m := by unfold ldU; rw [if_pos e]; rfl
          rw [e, eU]
          have l1 := lineI_in (s := s) (k := offN a / 64) (by omega)
          have iL : ∀ i, isLn (lineC (lineE s.M.2 i)) := fun i => ⟨_, lineE_len hR.w, rfl⟩
          by_cases h3 : offN a % 64 + m ≤ 64
          · have e3 : min (m : Int) ((64 - offN a % 64 : Nat) : Int) = m := by omega
            have f1 := lfB_of (a := offN a % 64) (n := m) (by omega) (by omega) h3
            have g1 : lgetU (lineC (lineE s.M.2 (offN a / 64))) ((offN a % 64 : Nat) : Int) m = rdB (memB s.M.2) (offN a) m := by
              unfold lgetU
              rw [if_pos f1, lnT_of, Int.toNat_natCast, Int.toNat_natCast, getN_rd h3 (by omega), show 64 * (offN a / 64) + offN a % 64 = offN a by omega]
            (try simp (config := { maxSteps := 10000000 }) only [go_sem, seval, s_rhas10_eq, s_rspl10_eq, s_rline10_eq, s_lget_eq, h1, p1, h2, hm, e3, p2, l1, iL, f1, g1]; repeat (simp (disch := omega) only [w64_d, ipos, ineg, dpos, dneg]; try simp (config := { maxSteps := 10000000 }) only [go_sem, seval, s_rhas10_eq, s_rspl10_eq, s_rline10_eq, s_lget_eq, h1, p1, h2, hm, e3, p2, l1, iL, f1, g1]))
            exact subH_refl _
          · obtain ⟨k, hk⟩ : ∃ k, k = 64 - offN a % 64 := ⟨_, rfl⟩
            have e3 : min (m : Int) ((64 - offN a % 64 : Nat) : Int) = k := by omega
            have l2 := lineI_in (s := s) (k := offN a / 64 + 1) (by omega)
            have f1 := lfB_of (a := offN a % 64) (n := k) (by omega) (by omega) (by omega)
            have f2 := lfB_of (a := 0) (n := m - k) (by omega) (by omega) (by omega)
            have e4 : w64 (((offN a / 64 : Nat) : Int) + 1) = ((offN a / 64 + 1 : Nat) : Int) := by rw [w64_d (by omega) (by omega)]; omega
            have e5 : w64 ((m : Int) - (k : Int)) = ((m - k : Nat) : Int) := by rw [w64_d (by omega) (by omega)]; omega
            have e6 : ¬ ((k : Int) = (m : Int)) := by omega
            have e7 : w64 (8 * (k : Int)) = ((8 * k : Nat) : Int) := by rw [w64_d (by omega) (by omega)]; omega
            have e8 : (BitVec.ofInt 64 ((8 * k : Nat) : Int)).toNat = 8 * k := ofI_nat (by omega)
            have g1 : lgetU (lineC (lineE s.M.2 (offN a / 64))) ((offN a % 64 : Nat) : Int) k = rdB (memB s.M.2) (offN a) k := by
              unfold lgetU
              rw [if_pos f1, lnT_of, Int.toNat_natCast, Int.toNat_natCast, getN_rd (by omega) (by omega), show 64 * (offN a / 64) + offN a % 64 = offN a by omega]
            have g2 : lgetU (lineC (lineE s.M.2 (offN a / 64 + 1))) 0 ((m - k : Nat) : Int) = rdB (memB s.M.2) (offN a + k) (m - k) := by
              unfold lgetU
              have f2' := f2
              rw [show ((0 : Nat) : Int) = 0 from rfl] at f2'
              rw [if_pos f2', lnT_of, Int.toNat_natCast, show (0 : Int).toNat = 0 from rfl, getN_rd (by omega) (by omega), show 64 * (offN a / 64 + 1) + 0 = offN a + k by omega]
            have g3 := rd_two (B := memB s.M.2) (a := offN a) (m := k) (n := m) (by omega) (by omega)
            rw [show ((0 : Nat) : Int) = 0 from rfl] at f2
            (try simp (config := { maxSteps := 10000000 }) only [go_sem, seval, s_rhas10_eq, s_rspl10_eq, s_rline10_eq, s_lget_eq, h1, p1, h2, hm, e3, p2, l1, l2, iL, f1, f2, e4, e5, e6, e7, e8, g1, g2, g3]; repeat (simp (disch := omega) only [w64_d, ipos, ineg, dpos, dneg]; try simp (config := { maxSteps := 10000000 }) only [go_sem, seval, s_rhas10_eq, s_rspl10_eq, s_rline10_eq, s_lget_eq, h1, p1, h2, hm, e3, p2, l1, l2, iL, f1, f2, e4, e5, e6, e7, e8, g1, g2, g3]))
            exact subH_refl _
      · simp at h
    · simp at h
  · simp at h
def stH (H : AH) (s : RamS) (a : BitVec 64) (n : Int) (v : BitVec 64) : AH := if ldB s a n = true then H.set s.mid (mapO (stM s.M (offN a) n.toNat v)) else H
theorem stH_len {H : AH} {s : RamS} {a : BitVec 64} {n : Int} {v : BitVec 64} : (stH H s a n v).length = H.length := by unfold stH; split <;> simp
def s_rstore10 (args : List AV) (H : AH) : Option (AV × AH) :=
  match args with
  | [.c x, .c (.u a), .c (.i n), .c (.u v)] => match ramQ H x with
    | some s => if inR n then some (.c (.b (ldB s a n)), stH H s a n v) else none
    | none => none
  | _ => none
theorem s_rstore10_eq {H : AH} {x : Sc} {a v : BitVec 64} {n : Int} {s : RamS} (h : RamIs H x s) (hn : inR n) : s_rstore10 [.c x, .c (.u a), .c (.i n), .c (.u v)] H = some (.c (.b (ldB s a n)), stH H s a n v) := by simp only [s_rstore10, ramQ_of h, hn, if_true]
theorem len_rstore10 (args : List AV) (H : AH) (v : AV) (H1 : AH) (h : s_rstore10 args H = some (v, H1)) : H.length ≤ H1.length := by
  unfold s_rstore10 at h
  repeat' split at h
  all_goals simp at h
  rw [← h.2, stH_len]; exact Nat.le_refl _
set_option maxRecDepth 100000 in
set_option maxHeartbeats 2000000 in
theorem ok_rstore10 : FpOk Tryz.prog 90 s_rstore10 := by
  refine fp_ok (s := s_rstore10) (tab := [(58, .fq s_rhas10), (59, .pu s_rspl10), (60, .fq s_rline10), (126, .pu s_lput), (127, .fp s_rsetl)]) hmix (TabOk.cons (e := .fq s_rhas10) ok_rhas10 (TabOk.cons (e := .pu s_rspl10) ok_rspl10 (TabOk.cons (e := .fq s_rline10) ok_rline10 (TabOk.cons (e := .pu s_lput) ok_lput (TabOk.cons (e := .fp s_rsetl) ok_rsetl TabOk.nil))))) Tryz.func90 rfl Tryz.results90 Tryz.ntmps90 (by kernel_rfl) (by kernel_rfl) len_rstore10 ?_
  intro args H v H1 h hargs hH
  unfold s_rstore10 at h
  split at h
  · rename_i x a n v
    split at h
    · rename_i s hs
      split at h
      · rename_i hn
        simp only [Option.some.injEq, Prod.mk.injEq] at h
        obtain ⟨rfl, rfl⟩ := h
        refine ⟨by simp only [List.length_cons, List.length_nil]; decide, ?_⟩
        have hR := ramQ_inv hs
        have p1 := s_rhas10_eq (a := a) hR hn
        have p2 := fun i => s_rline10_eq (i := i) hR
        have n1 := hR.n1
        have n2 := hR.n2
        by_cases h1 : 8 < n
        · have e : ldB s a n = false := by unfold ldB; rw [decide_eq_false (by omega)]; rfl
          have e0 : stH H s a n v = H := by unfold stH; rw [if_neg (by simp [e])]
          rw [e0]
          (try simp (config := { maxSteps := 10000000 }) only [go_sem, seval, h1, e]; repeat (simp (disch := omega) only [w64_d, ipos, ineg, dpos, dneg]; try simp (config := { maxSteps := 10000000 }) only [go_sem, seval, h1, e]))
          exact fin_fp rfl (subH_refl _) hH (Nat.le_refl _)
        cases h2 : hasB s.n a n
        · have e : ldB s a n = false := by unfold ldB; rw [h2]; simp
          have e0 : stH H s a n v = H := by unfold stH; rw [if_neg (by simp [e])]
          rw [e0]
          (try simp (config := { maxSteps := 10000000 }) only [go_sem, seval, h1, p1, h2, e]; repeat (simp (disch := omega) only [w64_d, ipos, ineg, dpos, dneg]; try simp (config := { maxSteps := 10000000 }) only [go_sem, seval, h1, p1, h2, e]))
          exact fin_fp rfl (subH_refl _) hH (Nat.le_refl _)
        · have e : ldB s a n = true := by unfold ldB; rw [h2, decide_eq_true (by omega)]; rfl
          have hm := hasB_mem n2 h2
          have h2' := h2
          rw [hasB_iff] at h2'
          obtain ⟨m, rfl⟩ := Int.eq_ofNat_of_zero_le (show 0 ≤ n by omega)
          have eU : stH H s a m v = H.set s.mid (mapO (stM s.M (offN a) m v)) := by unfold stH; rw [if_pos e]; rfl
          rw [eU, e]
          have l1 := lineI_in (s := s) (k := offN a / 64) (by omega)
          have iL : ∀ i, isLn (lineC (lineE s.M.2 i)) := fun i => ⟨_, lineE_len hR.w, rfl⟩
          have z1 : inN s.n ((offN a / 64 : Nat) : Int) = true := by simp only [inN, Bool.and_eq_true, decide_eq_true_eq]; omega
          have lmid := hR.lmid
          have sx : ∀ (X : AH) (o : AObj), (H ++ X).set s.mid o = H.set s.mid o ++ X := fun X o => List.set_append_left _ _ lmid
          have pl : ∀ i o v n, (putN (lineE s.M.2 i) o v n).length = 64 := fun i o v n => by rw [putN_len]; exact lineE_len hR.w
          have ll : ∀ {L : List (BitVec 8)}, L.length = 64 → (lineC L).length = 64 ∧ (lineC L).all Sc.one = true ∧ (lineC L).take 64 = lineC L ∧ (lineC L).drop 64 = [] := fun {L} h => by
            have : (lineC L).length = 64 := by rw [lineC_len, h]
            exact ⟨this, lineC_one, by rw [← this, List.take_length], List.drop_eq_nil_of_le (by omega)⟩
          by_cases h3 : offN a % 64 + m ≤ 64
          · have e3 : min (m : Int) ((64 - offN a % 64 : Nat) : Int) = m := by omega
            have f1 := lfB_of (a := offN a % 64) (n := m) (by omega) (by omega) h3
            have g1 : lputL (lineC (lineE s.M.2 (offN a / 64))) ((offN a % 64 : Nat) : Int) m v = lineC (putN (lineE s.M.2 (offN a / 64)) (offN a % 64) v m) := by
              unfold lputL
              rw [if_pos f1, lnT_of, Int.toNat_natCast, Int.toNat_natCast]
            have e4 : stM s.M (offN a) m v = stE s.M (offN a / 64) (putN (lineE s.M.2 (offN a / 64)) (offN a % 64) v m) := by unfold stM; rw [if_neg (by omega)]
            have bb := hR.bel hH (M := stM s.M (offN a) m v)
            rw [e4] at bb ⊢
            obtain ⟨l5, o5, t5, d5⟩ := ll (pl (offN a / 64) (offN a % 64) v m)
            have q1 := fun X => s_rsetl_eq (i := ((offN a / 64 : Nat) : Int)) (hR.app X) (pl (offN a / 64) (offN a % 64) v m)
            generalize putN (lineE s.M.2 (offN a / 64)) (offN a % 64) v m = L1 at *
            have q2 : ∀ X, setRm (H ++ X) s ((offN a / 64 : Nat) : Int) L1 = H.set s.mid (mapO (stE s.M (offN a / 64) L1)) ++ X := fun X => by unfold setRm; rw [if_pos z1, sx]; rfl
            simp only [q2] at q1
            (try simp (config := { maxSteps := 10000000 }) only [go_sem, seval, s_rhas10_eq, s_rspl10_eq, s_rline10_eq, s_lput_eq, s_rsetl_eq, h1, p1, h2, hm, e3, p2, l1, iL, f1, g1, zRow_ln, zl64, dz64, l5, o5, t5, d5, q1]; repeat (simp (disch := omega) only [w64_d, ipos, ineg, dpos, dneg]; try simp (config := { maxSteps := 10000000 }) only [go_sem, seval, s_rhas10_eq, s_rspl10_eq, s_rline10_eq, s_lput_eq, s_rsetl_eq, h1, p1, h2, hm, e3, p2, l1, iL, f1, g1, zRow_ln, zl64, dz64, l5, o5, t5, d5, q1]))
            exact fin_fp rfl (subH_app _ _) bb (by simp)
          · obtain ⟨k, hk⟩ : ∃ k, k = 64 - offN a % 64 := ⟨_, rfl⟩
            have e3 : min (m : Int) ((64 - offN a % 64 : Nat) : Int) = k := by omega
            have l2 := fun M => lineI_in (s := s.to M) (k := offN a / 64 + 1) (by simp only [RamS.to]; omega)
            have f1 := lfB_of (a := offN a % 64) (n := k) (by omega) (by omega) (by omega)
            have f2 := lfB_of (a := 0) (n := m - k) (by omega) (by omega) (by omega)
            have e4 : w64 (((offN a / 64 : Nat) : Int) + 1) = ((offN a / 64 + 1 : Nat) : Int) := by rw [w64_d (by omega) (by omega)]; omega
            have e5 : w64 ((m : Int) - (k : Int)) = ((m - k : Nat) : Int) := by rw [w64_d (by omega) (by omega)]; omega
            have e6 : (k : Int) < (m : Int) := by omega
            have e7 : w64 (8 * (k : Int)) = ((8 * k : Nat) : Int) := by rw [w64_d (by omega) (by omega)]; omega
            have e8 : (BitVec.ofInt 64 ((8 * k : Nat) : Int)).toNat = 8 * k := ofI_nat (by omega)
            have eM : stM s.M (offN a) m v = stE (stE s.M (offN a / 64) (putN (lineE s.M.2 (offN a / 64)) (offN a % 64) v k)) (offN a / 64 + 1) (putN (lineE (stE s.M (offN a / 64) (putN (lineE s.M.2 (offN a / 64)) (offN a % 64) v k)).2 (offN a / 64 + 1)) 0 (v >>> (8 * k)) (m - k)) := by unfold stM; rw [if_pos (by omega), hk]
            have bb := hR.bel hH (M := stM s.M (offN a) m v)
            rw [eM] at bb ⊢
            have g1 : lputL (lineC (lineE s.M.2 (offN a / 64))) ((offN a % 64 : Nat) : Int) k v = lineC (putN (lineE s.M.2 (offN a / 64)) (offN a % 64) v k) := by
              unfold lputL
              rw [if_pos f1, lnT_of, Int.toNat_natCast, Int.toNat_natCast]
            have w1 : wfE s.n (stE s.M (offN a / 64) (putN (lineE s.M.2 (offN a / 64)) (offN a % 64) v k)) := wfE_put hR.w (by omega)
            obtain ⟨l5, o5, t5, d5⟩ := ll (pl (offN a / 64) (offN a % 64) v k)
            have q1 := fun X => s_rsetl_eq (i := ((offN a / 64 : Nat) : Int)) (hR.app X) (pl (offN a / 64) (offN a % 64) v k)
            generalize putN (lineE s.M.2 (offN a / 64)) (offN a % 64) v k = L1 at *
            have q2 : ∀ X, setRm (H ++ X) s ((offN a / 64 : Nat) : Int) L1 = H.set s.mid (mapO (stE s.M (offN a / 64) L1)) ++ X := fun X => by unfold setRm; rw [if_pos z1, sx]; rfl
            simp only [q2] at q1
            generalize stE s.M (offN a / 64) L1 = M1 at *
            have g2 : lputL (lineC (lineE M1.2 (offN a / 64 + 1))) 0 ((m - k : Nat) : Int) (v >>> (8 * k)) = lineC (putN (lineE M1.2 (offN a / 64 + 1)) 0 (v >>> (8 * k)) (m - k)) := by
              unfold lputL
              have f2' := f2
              rw [show ((0 : Nat) : Int) = 0 from rfl] at f2'
              rw [if_pos f2', lnT_of, Int.toNat_natCast]; rfl
            have hR2 := hR.set w1
            have p3 := fun X i => s_rline10_eq (i := i) (hR2.app X)
            have iL2 : ∀ i, isLn (lineC (lineE M1.2 i)) := fun i => ⟨_, lineE_len w1, rfl⟩
            have pl2 : (putN (lineE M1.2 (offN a / 64 + 1)) 0 (v >>> (8 * k)) (m - k)).length = 64 := by rw [putN_len]; exact lineE_len w1
            obtain ⟨l6, o6, t6, d6⟩ := ll pl2
            have q3 := fun X => s_rsetl_eq (i := ((offN a / 64 + 1 : Nat) : Int)) (hR2.app X) pl2
            have l3 := l2 M1
            rw [show (s.to M1).M = M1 from rfl] at l3
            generalize putN (lineE M1.2 (offN a / 64 + 1)) 0 (v >>> (8 * k)) (m - k) = L2 at *
            have q4 : ∀ X, setRm (H.set s.mid (mapO M1) ++ X) (s.to M1) ((offN a / 64 + 1 : Nat) : Int) L2 = H.set s.mid (mapO (stE M1 (offN a / 64 + 1) L2)) ++ X := fun X => by
              have z2 : inN (s.to M1).n ((offN a / 64 + 1 : Nat) : Int) = true := by
                show inN s.n ((offN a / 64 + 1 : Nat) : Int) = true
                simp only [inN, Bool.and_eq_true, decide_eq_true_eq]; omega
              unfold setRm; rw [if_pos z2]; simp only [RamS.to, Int.toNat_natCast]
              rw [List.set_append_left _ _ (by rw [List.length_set]; exact lmid), List.set_set]
            simp only [q4] at q3
            have hl : (H.set s.mid (mapO M1)).length = H.length := List.length_set
            have hg1 : ∀ o, hg (H.set s.mid (mapO M1) ++ [o]) H.length = o := fun o => by rw [← hl, hg_len]; rfl
            have hs1 : ∀ o p, (H.set s.mid (mapO M1) ++ [o]).set H.length p = H.set s.mid (mapO M1) ++ [p] := fun o p => by rw [← hl, set_len]; rfl
            rw [show ((0 : Nat) : Int) = 0 from rfl] at f2
            generalize stE M1 (offN a / 64 + 1) L2 = M2 at *
            (try simp (config := { maxSteps := 10000000 }) only [go_sem, seval, s_rhas10_eq, s_rspl10_eq, s_rline10_eq, s_lput_eq, s_rsetl_eq, h1, p1, h2, hm, e3, p2, l1, iL, f1, f2, e4, e5, e6, e7, e8, g1, zRow_ln, zl64, dz64, l5, o5, t5, d5, q1, p3, l3, iL2, g2, l6, o6, t6, d6, q3, hg1, hs1]; repeat (simp (disch := omega) only [w64_d, ipos, ineg, dpos, dneg]; try simp (config := { maxSteps := 10000000 }) only [go_sem, seval, s_rhas10_eq, s_rspl10_eq, s_rline10_eq, s_lput_eq, s_rsetl_eq, h1, p1, h2, hm, e3, p2, l1, iL, f1, f2, e4, e5, e6, e7, e8, g1, zRow_ln, zl64, dz64, l5, o5, t5, d5, q1, p3, l3, iL2, g2, l6, o6, t6, d6, q3, hg1, hs1]))
            exact fin_fp rfl (subH_app _ _) bb (by simp)
      · simp at h
    · simp at h
  · simp at h
end
end Go.Proofs.YtcbhelkafelofaaGreat
