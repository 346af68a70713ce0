/- Layer 12: nobody is ever stuck who takes locks by jobs: plain. -/
import Derived.Test.YthfccacopffkgaaLkR
namespace Go.Proofs.Ythfccacopffkgaa
open Go.Am
set_option linter.unusedSimpArgs false
set_option linter.unusedVariables false
noncomputable section
set_option maxRecDepth 100000

/-- a job: what it needs, and how many steps it did -/
structure Jb where
  nx : Sc
  L : List Int
  s : Nat
/-- how many of its locks a job surely holds, and how many it may hold -/
def capJ (n s : Nat) : Nat := if s ≤ n then s else 2 * n + 1 - s
def mayJ (n s : Nat) : Nat := if s < n then s + 1 else capJ n s
structure JbOk (j : Jb) : Prop where
  up : j.L.Pairwise (fun x y => x < y)
  rng : ∀ a ∈ j.L, 0 ≤ a ∧ a < 10
  s : j.s ≤ 2 * j.L.length + 1
structure Inv (S : LS) (J : List Jb) : Prop where
  len : S.length = 10
  jl : J.length = 8
  ok : ∀ j ∈ J, JbOk j
  fr : ∀ a : Nat, a < 10 → (atS S a).1 < 0 → (atS S a).2 = []
  h8 : ∀ a : Nat, a < 10 → (atS S a).1 < 8
  nd : ∀ a : Nat, a < 10 → (atS S a).2.Nodup
  q : ∀ a : Nat, a < 10 → ∀ w ∈ (atS S a).2, ∃ k : Nat, w = k ∧ ∃ j, J[k]? = some j ∧ j.L[j.s]? = some (a : Int) ∧ (atS S a).1 ≠ w
  d : ∀ a : Nat, a < 10 → ∀ (k : Nat) (j : Jb), J[k]? = some j → (atS S a).1 = k → (a : Int) ∈ j.L.take (mayJ j.L.length j.s)
  e : ∀ (k : Nat) (j : Jb), J[k]? = some j → ∀ a : Nat, a < 10 → (a : Int) ∈ j.L.take (capJ j.L.length j.s) → (atS S a).1 = k
section
variable {S : LS} {J : List Jb}
theorem at_set {S : LS} {a b : Nat} {v : Int × List Int} (hb : b < S.length) : atS (S.set b v) a = if b = a then v else atS S a := by
  unfold atS
  rw [Int.toNat_natCast, List.getD_eq_getElem?_getD, List.getElem?_set, List.getD_eq_getElem?_getD]
  split
  · simp [hb]
  · rfl
theorem getJ_lt {k : Nat} {j : Jb} (h : J[k]? = some j) : k < J.length := by
  rcases Nat.lt_or_ge k J.length with c | c
  · exact c
  · rw [List.getElem?_eq_none c] at h; simp at h
theorem getJ_set {k i : Nat} {j : Jb} (hk : k < J.length) : (J.set k j)[i]? = if k = i then some j else J[i]? := by
  rw [List.getElem?_set]
  split
  · simp [hk]
  · rfl
theorem mem_take {α : Type} {l : List α} {n : Nat} {x : α} : x ∈ l.take n ↔ ∃ i, i < n ∧ l[i]? = some x := by
  rw [List.mem_iff_getElem?]
  constructor
  · rintro ⟨i, hi⟩
    rw [List.getElem?_take] at hi
    split at hi
    · exact ⟨i, by omega, hi⟩
    · simp at hi
  · rintro ⟨i, h1, h2⟩
    exact ⟨i, by rw [List.getElem?_take, if_pos h1]; exact h2⟩
theorem up_inj {L : List Int} (h : L.Pairwise (fun x y => x < y)) {i k : Nat} {x : Int} (hi : L[i]? = some x) (hk : L[k]? = some x) : i = k := by
  rw [List.pairwise_iff_getElem] at h
  obtain ⟨a, ha⟩ := List.getElem?_eq_some_iff.1 hi
  obtain ⟨b, hb⟩ := List.getElem?_eq_some_iff.1 hk
  rcases Nat.lt_trichotomy i k with c | c | c
  · have := h i k a b c; omega
  · exact c
  · have := h k i b a c; omega
/-- one lock is told anew, and one job goes on -/
theorem Inv.upd (h : Inv S J) {k : Nat} {j : Jb} (hj : J[k]? = some j) {t : Nat} (ht : t ≤ 2 * j.L.length + 1) {b : Nat} (hb : b < 10) {v : Int × List Int}
    (v1 : v.1 < 0 → v.2 = []) (v2 : v.1 < 8) (v3 : v.2.Nodup)
    (vq : ∀ w ∈ v.2, ∃ i : Nat, w = i ∧ ∃ x, (J.set k { j with s := t })[i]? = some x ∧ x.L[x.s]? = some (b : Int) ∧ v.1 ≠ w)
    (oq : ∀ a : Nat, a < 10 → a ≠ b → (k : Int) ∈ (atS S a).2 → j.L[t]? = some (a : Int))
    (vd : ∀ (i : Nat) (x : Jb), (J.set k { j with s := t })[i]? = some x → v.1 = i → (b : Int) ∈ x.L.take (mayJ x.L.length x.s))
    (od : ∀ a : Nat, a < 10 → a ≠ b → (atS S a).1 = k → (a : Int) ∈ j.L.take (mayJ j.L.length t))
    (ve : ∀ (i : Nat) (x : Jb), (J.set k { j with s := t })[i]? = some x → (b : Int) ∈ x.L.take (capJ x.L.length x.s) → v.1 = i)
    (oe : ∀ a : Nat, a < 10 → a ≠ b → (a : Int) ∈ j.L.take (capJ j.L.length t) → (atS S a).1 = k) : Inv (S.set b v) (J.set k { j with s := t }) := by
  have hk := getJ_lt hj
  have at' : ∀ a : Nat, atS (S.set b v) a = if b = a then v else atS S a := fun a => at_set (by rw [h.len]; exact hb)
  have js : ∀ i : Nat, (J.set k { j with s := t })[i]? = if k = i then some { j with s := t } else J[i]? := fun i => getJ_set hk
  refine ⟨by rw [List.length_set, h.len], by rw [List.length_set, h.jl], fun x hx => ?_, fun a ha => ?_, fun a ha => ?_, fun a ha => ?_, fun a ha w hw => ?_, fun a ha i x hx hi => ?_, fun i x hx a ha hm => ?_⟩
  · rcases List.mem_or_eq_of_mem_set hx with g | rfl
    · exact h.ok x g
    · have := h.ok j (List.mem_of_getElem? hj)
      exact ⟨this.up, this.rng, ht⟩
  · rw [at']; split
    · exact v1
    · exact h.fr a ha
  · rw [at']; split
    · exact v2
    · exact h.h8 a ha
  · rw [at']; split
    · exact v3
    · exact h.nd a ha
  · rw [at'] at hw ⊢
    by_cases c : b = a
    · subst c
      rw [if_pos rfl] at hw ⊢
      exact vq w hw
    · rw [if_neg c] at hw ⊢
      obtain ⟨i, rfl, x, hx, hl, hne⟩ := h.q a ha w hw
      refine ⟨i, rfl, ?_⟩
      rw [js]
      by_cases ck : k = i
      · subst ck
        rw [if_pos rfl]
        exact ⟨_, rfl, oq a ha (fun e => c e.symm) hw, hne⟩
      · rw [if_neg ck]
        exact ⟨x, hx, hl, hne⟩
  · rw [at'] at hi
    by_cases c : b = a
    · subst c
      rw [if_pos rfl] at hi
      exact vd i x hx hi
    · rw [if_neg c] at hi
      rw [js] at hx
      by_cases ck : k = i
      · subst ck
        rw [if_pos rfl] at hx
        simp only [Option.some.injEq] at hx
        subst hx
        exact od a ha (fun e => c e.symm) hi
      · rw [if_neg ck] at hx
        exact h.d a ha i x hx hi
  · rw [at']
    by_cases c : b = a
    · subst c
      rw [if_pos rfl]
      exact ve i x hx hm
    · rw [if_neg c]
      rw [js] at hx
      by_cases ck : k = i
      · subst ck
        rw [if_pos rfl] at hx
        simp only [Option.some.injEq] at hx
        subst hx
        exact oe a ha (fun e => c e.symm) hm
      · rw [if_neg ck] at hx
        exact h.e i x hx a ha hm
/-- one job goes on -/
theorem Inv.upd0 (h : Inv S J) {k : Nat} {j : Jb} (hj : J[k]? = some j) {t : Nat} (ht : t ≤ 2 * j.L.length + 1)
    (oq : ∀ a : Nat, a < 10 → (k : Int) ∈ (atS S a).2 → j.L[t]? = some (a : Int))
    (od : ∀ a : Nat, a < 10 → (atS S a).1 = k → (a : Int) ∈ j.L.take (mayJ j.L.length t))
    (oe : ∀ a : Nat, a < 10 → (a : Int) ∈ j.L.take (capJ j.L.length t) → (atS S a).1 = k) : Inv S (J.set k { j with s := t }) := by
  have hk := getJ_lt hj
  have js : ∀ i : Nat, (J.set k { j with s := t })[i]? = if k = i then some { j with s := t } else J[i]? := fun i => getJ_set hk
  refine ⟨h.len, by rw [List.length_set, h.jl], fun x hx => ?_, h.fr, h.h8, h.nd, fun a ha w hw => ?_, fun a ha i x hx hi => ?_, fun i x hx a ha hm => ?_⟩
  · rcases List.mem_or_eq_of_mem_set hx with g | rfl
    · exact h.ok x g
    · have := h.ok j (List.mem_of_getElem? hj)
      exact ⟨this.up, this.rng, ht⟩
  · obtain ⟨i, rfl, x, hx, hl, hne⟩ := h.q a ha w hw
    refine ⟨i, rfl, ?_⟩
    rw [js]
    by_cases ck : k = i
    · subst ck
      rw [if_pos rfl]
      exact ⟨_, rfl, oq a ha hw, hne⟩
    · rw [if_neg ck]
      exact ⟨x, hx, hl, hne⟩
  · rw [js] at hx
    by_cases ck : k = i
    · subst ck
      rw [if_pos rfl] at hx
      simp only [Option.some.injEq] at hx
      subst hx
      exact od a ha hi
    · rw [if_neg ck] at hx
      exact h.d a ha i x hx hi
  · rw [js] at hx
    by_cases ck : k = i
    · subst ck
      rw [if_pos rfl] at hx
      simp only [Option.some.injEq] at hx
      subst hx
      exact oe a ha hm
    · rw [if_neg ck] at hx
      exact h.e i x hx a ha hm
theorem set_sameJ {k : Nat} {j : Jb} (hj : J[k]? = some j) : J.set k { j with s := j.s } = J := by
  apply List.ext_getElem?
  intro i
  rw [getJ_set (getJ_lt hj)]
  split
  · rename_i e; subst e; exact hj.symm
  · rfl
theorem Inv.step (h : Inv S J) {k : Nat} {j : Jb} (hj : J[k]? = some j) : Inv (stS S k j.L j.s) (J.set k { j with s := stN S k j.L j.s }) := by
  have hk := getJ_lt hj
  have k8 : k < 8 := by rw [← h.jl]; exact hk
  have ok := h.ok j (List.mem_of_getElem? hj)
  -- where the job may wait
  have jq : ∀ a : Nat, a < 10 → (k : Int) ∈ (atS S a).2 → j.L[j.s]? = some (a : Int) ∧ (atS S a).1 ≠ k := fun a ha hm => by
    obtain ⟨i, e1, x, hx, hl, hne⟩ := h.q a ha _ hm
    obtain rfl : k = i := by omega
    rw [hj, Option.some.injEq] at hx
    subst hx
    exact ⟨hl, hne⟩
  unfold stS stN
  by_cases c1 : 2 * j.L.length < j.s
  · rw [if_pos c1, if_pos c1, set_sameJ hj]; exact h
  rw [if_neg c1, if_neg c1]
  by_cases c2 : j.s < j.L.length
  · rw [if_pos c2, if_pos c2]
    obtain ⟨a, ha⟩ : ∃ a, j.L[j.s]? = some a := ⟨_, List.getElem?_eq_getElem c2⟩
    have gd : j.L.getD j.s 0 = a := by rw [List.getD_eq_getElem?_getD, ha]; rfl
    rw [gd]
    obtain ⟨a0, a10⟩ := ok.rng a (List.mem_of_getElem? ha)
    obtain ⟨b, rfl⟩ : ∃ b : Nat, a = b := ⟨a.toNat, by omega⟩
    have hb : b < 10 := by omega
    have rg : rgtS S k b = true := by
      unfold rgtS
      rw [h.len]
      simp only [Bool.and_eq_true, decide_eq_true_eq]
      omega
    have mayt : mayJ j.L.length j.s = j.s + 1 := by unfold mayJ; rw [if_pos c2]
    have capt : capJ j.L.length j.s = j.s := by unfold capJ; rw [if_pos (by omega)]
    have may1 : j.s + 1 ≤ mayJ j.L.length (j.s + 1) := by unfold mayJ capJ; split; omega; rw [if_pos (by omega)]; exact Nat.le_refl _
    have cap1 : capJ j.L.length (j.s + 1) = j.s + 1 := by unfold capJ; rw [if_pos (by omega)]
    have tk : ∀ {m : Nat} {x : Int}, j.s + 1 ≤ m → x ∈ j.L.take (j.s + 1) → x ∈ j.L.take m := fun hm hx => by
      obtain ⟨i, h1, h2⟩ := mem_take.1 hx
      exact mem_take.2 ⟨i, by omega, h2⟩
    have sp : ∀ {x : Int}, x ∈ j.L.take (j.s + 1) → x ≠ b → x ∈ j.L.take j.s := fun hx hne => by
      obtain ⟨i, h1, h2⟩ := mem_take.1 hx
      refine mem_take.2 ⟨i, ?_, h2⟩
      rcases Nat.lt_succ_iff_lt_or_eq.1 h1 with c | rfl
      · exact c
      · rw [ha, Option.some.injEq] at h2; exact absurd h2.symm hne
    have btk : (b : Int) ∈ j.L.take (j.s + 1) := mem_take.2 ⟨j.s, by omega, ha⟩
    by_cases e1 : (atS S b).1 = k
    · have tb : tkB S k b = true := by unfold tkB; rw [rg]; simp [e1]
      have ts : tkS S k b = S := by unfold tkS; rw [rg, if_pos rfl, if_pos e1]
      rw [tb, ts, if_pos rfl]
      refine h.upd0 hj (by omega) (fun a ha' hm => ?_) (fun a ha' hh => ?_) (fun a ha' hm => ?_)
      · obtain ⟨q1, q2⟩ := jq a ha' hm
        rw [ha, Option.some.injEq] at q1
        have : a = b := by omega
        subst this
        exact absurd e1 q2
      · have := h.d a ha' k j hj hh
        rw [mayt] at this
        exact tk may1 this
      · rw [cap1] at hm
        by_cases c : a = b
        · rw [c]; exact e1
        · exact h.e k j hj a ha' (by rw [capt]; exact sp hm (by omega))
    · by_cases e2 : (atS S b).1 < 0
      · have tb : tkB S k b = true := by unfold tkB; rw [rg]; simp [e2]
        have ts : tkS S k b = S.set b (k, []) := by unfold tkS; rw [rg, if_pos rfl, if_neg e1, if_pos e2]; rfl
        rw [tb, ts, if_pos rfl]
        have js : ∀ i : Nat, (J.set k { j with s := j.s + 1 })[i]? = if k = i then some { j with s := j.s + 1 } else J[i]? := fun i => getJ_set hk
        refine h.upd hj (by omega) hb (fun c => by simp only at c; omega) (by simp only; omega) (by simp) (fun w hw => by simp at hw) (fun a ha' hne hm => ?_) (fun i x hx hi => ?_) (fun a ha' hne hh => ?_) (fun i x hx hm => ?_) (fun a ha' hne hm => ?_)
        · obtain ⟨q1, q2⟩ := jq a ha' hm
          rw [ha, Option.some.injEq] at q1
          exact absurd (show a = b by omega) hne
        · simp only at hi
          obtain rfl : k = i := by omega
          rw [js, if_pos rfl, Option.some.injEq] at hx
          subst hx
          exact tk may1 btk
        · have := h.d a ha' k j hj hh
          rw [mayt] at this
          exact tk may1 this
        · simp only
          by_cases c : k = i
          · omega
          · rw [js, if_neg c] at hx
            have := h.e i x hx b hb hm
            omega
        · rw [cap1] at hm
          exact h.e k j hj a ha' (by rw [capt]; exact sp hm (by omega))
      · have tb : tkB S k b = false := by unfold tkB; rw [rg]; simp [e1]; omega
        rw [tb, if_neg (by decide)]
        by_cases e3 : (k : Int) ∈ (atS S b).2
        · have ts : tkS S k b = S := by unfold tkS; rw [rg, if_pos rfl, if_neg e1, if_neg e2, if_pos e3]
          rw [ts, set_sameJ hj]; exact h
        · have ts : tkS S k b = S.set b ((atS S b).1, (atS S b).2 ++ [(k : Int)]) := by unfold tkS; rw [rg, if_pos rfl, if_neg e1, if_neg e2, if_neg e3]; rfl
          rw [ts]
          have js : ∀ i : Nat, (J.set k { j with s := j.s })[i]? = J[i]? := fun i => by rw [set_sameJ hj]
          refine h.upd hj ok.s hb (fun c => absurd c e2) (h.h8 b hb) ?_ (fun w hw => ?_) (fun a ha' hne hm => (jq a ha' hm).1) (fun i x hx hi => ?_) (fun a ha' hne hh => h.d a ha' k j hj hh) (fun i x hx hm => ?_) (fun a ha' hne hm => h.e k j hj a ha' hm)
          · rw [List.nodup_append]
            exact ⟨h.nd b hb, by simp, fun x hx y hy hxy => by rw [List.mem_singleton] at hy; exact e3 (by rw [← hy, ← hxy]; exact hx)⟩
          · rcases List.mem_append.1 hw with g | g
            · obtain ⟨i, rfl, x, hx, hl, hne⟩ := h.q b hb w g
              exact ⟨i, rfl, x, by rw [js]; exact hx, hl, hne⟩
            · rw [List.mem_singleton] at g
              exact ⟨k, g, j, by rw [js]; exact hj, ha, by rw [g]; exact e1⟩
          · rw [js] at hx
            exact h.d b hb i x hx hi
          · rw [js] at hx
            exact h.e i x hx b hb hm
  · rw [if_neg c2, if_neg c2]
    have noq : ∀ a : Nat, a < 10 → ¬ (k : Int) ∈ (atS S a).2 := fun a ha hm => by
      have := (jq a ha hm).1
      rw [List.getElem?_eq_none (by omega)] at this
      simp at this
    have mayt : mayJ j.L.length j.s = capJ j.L.length j.s := by unfold mayJ; rw [if_neg c2]
    have may1 : mayJ j.L.length (j.s + 1) = capJ j.L.length (j.s + 1) := by unfold mayJ; rw [if_neg (by omega)]
    by_cases c3 : j.s = j.L.length
    · rw [if_pos c3]
      have capt : capJ j.L.length j.s = j.L.length := by unfold capJ; rw [if_pos (by omega)]; exact c3
      have cap1 : capJ j.L.length (j.s + 1) = j.L.length := by unfold capJ; rw [if_neg (by omega)]; omega
      refine h.upd0 hj (by omega) (fun a ha' hm => absurd hm (noq a ha')) (fun a ha' hh => ?_) (fun a ha' hm => ?_)
      · have := h.d a ha' k j hj hh
        rw [mayt, capt] at this
        rw [may1, cap1]; exact this
      · rw [cap1] at hm
        exact h.e k j hj a ha' (by rw [capt]; exact hm)
    · rw [if_neg c3]
      obtain ⟨m, hm⟩ : ∃ m, m = 2 * j.L.length - j.s := ⟨_, rfl⟩
      have ml : m < j.L.length := by omega
      obtain ⟨a, ha⟩ : ∃ a, j.L[m]? = some a := ⟨_, List.getElem?_eq_getElem ml⟩
      have gd : j.L.getD (2 * j.L.length - j.s) 0 = a := by rw [← hm, List.getD_eq_getElem?_getD, ha]; rfl
      rw [gd]
      obtain ⟨a0, a10⟩ := ok.rng a (List.mem_of_getElem? ha)
      obtain ⟨b, rfl⟩ : ∃ b : Nat, a = b := ⟨a.toNat, by omega⟩
      have hb : b < 10 := by omega
      have capt : capJ j.L.length j.s = m + 1 := by unfold capJ; rw [if_neg (by omega)]; omega
      have cap1 : capJ j.L.length (j.s + 1) = m := by unfold capJ; rw [if_neg (by omega)]; omega
      have hol : (atS S b).1 = k := h.e k j hj b hb (by rw [capt]; exact mem_take.2 ⟨m, by omega, ha⟩)
      have rg : rgtS S k b = true := by
        unfold rgtS
        rw [h.len]
        simp only [Bool.and_eq_true, decide_eq_true_eq]
        omega
      have db : drB S k b = true := by unfold drB; rw [rg]; simp [hol]
      have js : ∀ i : Nat, (J.set k { j with s := j.s + 1 })[i]? = if k = i then some { j with s := j.s + 1 } else J[i]? := fun i => getJ_set hk
      have od : ∀ a : Nat, a < 10 → a ≠ b → (atS S a).1 = k → (a : Int) ∈ j.L.take (mayJ j.L.length (j.s + 1)) := fun a ha' hne hh => by
        have := h.d a ha' k j hj hh
        rw [mayt, capt] at this
        rw [may1, cap1]
        obtain ⟨i, h1, h2⟩ := mem_take.1 this
        refine mem_take.2 ⟨i, ?_, h2⟩
        rcases Nat.lt_succ_iff_lt_or_eq.1 h1 with c | rfl
        · exact c
        · rw [ha, Option.some.injEq] at h2
          exact absurd (show a = b by omega) hne
      have oe : ∀ a : Nat, a < 10 → a ≠ b → (a : Int) ∈ j.L.take (capJ j.L.length (j.s + 1)) → (atS S a).1 = k := fun a ha' hne hm' => by
        rw [cap1] at hm'
        obtain ⟨i, h1, h2⟩ := mem_take.1 hm'
        exact h.e k j hj a ha' (by rw [capt]; exact mem_take.2 ⟨i, by omega, h2⟩)
      have kb : (b : Int) ∉ j.L.take (capJ j.L.length (j.s + 1)) := fun hc => by
        rw [cap1] at hc
        obtain ⟨i, h1, h2⟩ := mem_take.1 hc
        have := up_inj ok.up h2 ha
        omega
      have eb : ∀ (i : Nat) (x : Jb), (J.set k { j with s := j.s + 1 })[i]? = some x → (b : Int) ∈ x.L.take (capJ x.L.length x.s) → False := fun i x hx hm' => by
        by_cases c : k = i
        · subst c
          rw [js, if_pos rfl, Option.some.injEq] at hx
          subst hx
          exact kb hm'
        · rw [js, if_neg c] at hx
          have := h.e i x hx b hb hm'
          omega
      cases hq : (atS S b).2 with
      | nil =>
        have ds : drS S k b = S.set b (-1, []) := by unfold drS; rw [db, if_pos rfl, hq]; rfl
        rw [ds]
        exact h.upd hj (by omega) hb (fun _ => rfl) (by simp only; omega) (by simp) (fun w hw => by simp at hw) (fun a ha' hne hm' => absurd hm' (noq a ha')) (fun i x hx hi => by simp only at hi; omega) od (fun i x hx hm' => (eb i x hx hm').elim) oe
      | cons y r =>
        have ds : drS S k b = S.set b (y, r) := by unfold drS; rw [db, if_pos rfl, hq]; rfl
        rw [ds]
        have hnd := h.nd b hb
        rw [hq, List.nodup_cons] at hnd
        have hqb : ∀ w ∈ (atS S b).2, ∃ i : Nat, w = i ∧ ∃ x : Jb, J[i]? = some x ∧ x.L[x.s]? = some (b : Int) ∧ (atS S b).1 ≠ w := h.q b hb
        rw [hq] at hqb
        obtain ⟨iy, ey, xy, hxy, hly, hny⟩ := hqb y (by simp)
        have nk : k ≠ iy := by omega
        refine h.upd hj (by omega) hb (fun c => by simp only at c; omega) (by simp only; have := getJ_lt hxy; rw [h.jl] at this; omega) hnd.2 (fun w hw => ?_) (fun a ha' hne hm' => absurd hm' (noq a ha')) (fun i x hx hi => ?_) od (fun i x hx hm' => (eb i x hx hm').elim) oe
        · obtain ⟨i, rfl, x, hx, hl, hne⟩ := hqb w (by simp only at hw; simp [hw])
          refine ⟨i, rfl, x, ?_, hl, ?_⟩
          · rw [js, if_neg (fun c => by omega)]; exact hx
          · simp only
            intro c
            exact hnd.1 (by rw [c]; exact hw)
        · simp only at hi
          obtain rfl : iy = i := by omega
          rw [js, if_neg nk, hxy, Option.some.injEq] at hx
          subst hx
          have hs : xy.s < xy.L.length := by
            rcases Nat.lt_or_ge xy.s xy.L.length with c | c
            · exact c
            · rw [List.getElem?_eq_none c] at hly; simp at hly
          exact mem_take.2 ⟨xy.s, by unfold mayJ; rw [if_pos hs]; omega, hly⟩
/-! ### nobody is stuck -/
theorem atS_mem {S : LS} {y : Int × List Int} (hy : y ∈ S) : ∃ a : Nat, a < S.length ∧ atS S a = y := by
  obtain ⟨a, ha, rfl⟩ := List.mem_iff_getElem.1 hy
  refine ⟨a, ha, ?_⟩
  unfold atS
  rw [Int.toNat_natCast, List.getD_eq_getElem?_getD, List.getElem?_eq_getElem ha]; rfl
theorem Inv.free (h : Inv S J) {B : List Bool} (hB : Gfp S B) : ∀ k, k < 8 → atB B k = false := by
  -- whoever is in waits at a lock; its holder is in, and waits at a higher one
  have key : ∀ (n k : Nat) (j : Jb) (a : Nat), a < 10 → 10 - a = n → k < 8 → atB B k = true → J[k]? = some j → j.L[j.s]? = some (a : Int) → (k : Int) ∈ (atS S a).2 → 0 ≤ (atS S a).1 → atB B (atS S a).1.toNat = true → False := by
    intro n
    induction n using Nat.strongRecOn with
    | _ n ih =>
      intro k j a ha hn hk hb hj hl hm h0 hbh
      have h8 := h.h8 a ha
      obtain ⟨i, hi⟩ : ∃ i : Nat, (atS S a).1 = i := ⟨(atS S a).1.toNat, by omega⟩
      rw [hi, Int.toNat_natCast] at hbh
      have i8 : i < 8 := by omega
      have wt := hB.cl i i8 hbh
      unfold wtP at wt
      rw [List.any_eq_true] at wt
      obtain ⟨y, hy, h1⟩ := wt
      simp only [Bool.and_eq_true, decide_eq_true_eq] at h1
      obtain ⟨c, hc, ec⟩ := atS_mem hy
      rw [h.len] at hc
      rw [← ec] at h1
      obtain ⟨i', e', x, hx, hxl, hne⟩ := h.q c hc _ h1.2.2
      obtain rfl : i = i' := by omega
      -- it holds the first lock, and waits at the second one
      have hd := h.d a ha i x hx hi
      have xs : x.s < x.L.length := by
        rcases Nat.lt_or_ge x.s x.L.length with c2 | c2
        · exact c2
        · rw [List.getElem?_eq_none c2] at hxl; simp at hxl
      unfold mayJ at hd
      rw [if_pos xs] at hd
      obtain ⟨p, p1, p2⟩ := mem_take.1 hd
      have ok := h.ok x (List.mem_of_getElem? hx)
      have hlt : a < c := by
        rcases Nat.lt_succ_iff_lt_or_eq.1 p1 with q | rfl
        · have up := ok.up
          rw [List.pairwise_iff_getElem] at up
          obtain ⟨l1, e1⟩ := List.getElem?_eq_some_iff.1 p2
          obtain ⟨l2, e2⟩ := List.getElem?_eq_some_iff.1 hxl
          have := up p x.s l1 l2 q
          omega
        · rw [p2, Option.some.injEq] at hxl
          have : a = c := by omega
          subst this
          exact absurd hi hne
      exact ih (10 - c) (by omega) i x c hc rfl i8 hbh hx hxl h1.2.2 h1.1 h1.2.1
  intro k hk
  cases hb : atB B k with
  | false => rfl
  | true =>
    exfalso
    have wt := hB.cl k hk hb
    unfold wtP at wt
    rw [List.any_eq_true] at wt
    obtain ⟨y, hy, h1⟩ := wt
    simp only [Bool.and_eq_true, decide_eq_true_eq] at h1
    obtain ⟨c, hc, ec⟩ := atS_mem hy
    rw [h.len] at hc
    rw [← ec] at h1
    obtain ⟨i', e', x, hx, hxl, hne⟩ := h.q c hc _ h1.2.2
    obtain rfl : k = i' := by omega
    exact key _ k x c hc rfl hk hb hx hxl h1.2.2 h1.1 h1.2.1
theorem Inv.unstuck (h : Inv S J) {B : List Bool} (hB : Gfp S B) : trB B = [] := by
  cases ht : trB B with
  | nil => rfl
  | cons x l =>
    have : x ∈ trB B := by rw [ht]; simp
    obtain ⟨j, h1, _, h3⟩ := mem_trN.1 this
    rw [h.free hB j h1] at h3
    simp at h3
/-! ### what is done is done with all -/
theorem heN_spec {S : LS} {w : Int} : ∀ k, (heN S w k).Pairwise (fun x y => x < y) ∧ ∀ x, x ∈ heN S w k ↔ ∃ a : Nat, a < k ∧ x = a ∧ 0 ≤ (atS S a).1 ∧ (atS S a).1 = w
  | 0 => ⟨List.Pairwise.nil, fun x => by simp [heN]⟩
  | k + 1 => by
    obtain ⟨h1, h2⟩ := heN_spec (S := S) (w := w) k
    unfold heN
    split
    · rename_i hc
      refine ⟨List.pairwise_append.2 ⟨h1, List.pairwise_singleton _ _, fun x hx y hy => ?_⟩, fun x => ?_⟩
      · rw [List.mem_singleton] at hy
        obtain ⟨a, a1, a2, _⟩ := (h2 x).1 hx
        omega
      · rw [List.mem_append, h2, List.mem_singleton]
        constructor
        · rintro (⟨a, a1, a2⟩ | rfl)
          · exact ⟨a, by omega, a2⟩
          · exact ⟨k, by omega, rfl, hc⟩
        · rintro ⟨a, a1, a2, a3⟩
          rcases Nat.lt_succ_iff_lt_or_eq.1 a1 with q | rfl
          · exact .inl ⟨a, q, a2, a3⟩
          · exact .inr a2
    · rename_i hc
      refine ⟨h1, fun x => ?_⟩
      rw [h2]
      constructor
      · rintro ⟨a, a1, a2⟩; exact ⟨a, by omega, a2⟩
      · rintro ⟨a, a1, a2, a3⟩
        rcases Nat.lt_succ_iff_lt_or_eq.1 a1 with q | rfl
        · exact ⟨a, q, a2, a3⟩
        · exact absurd a3 hc
theorem Inv.held (h : Inv S J) {k : Nat} {j : Jb} (hj : J[k]? = some j) (hs : j.s = j.L.length) : heS S k = j.L := by
  have ok := h.ok j (List.mem_of_getElem? hj)
  obtain ⟨h1, h2⟩ := heN_spec (S := S) (w := (k : Int)) S.length
  have cp : capJ j.L.length j.s = j.L.length := by unfold capJ; rw [if_pos (by omega)]; exact hs
  have my : mayJ j.L.length j.s = j.L.length := by unfold mayJ; rw [if_neg (by omega), cp]
  refine strict_uniq linI (h1.imp fun h => by simpa [ltI] using h) (ok.up.imp fun h => by simpa [ltI] using h) fun x => ?_
  show x ∈ heN S k S.length ↔ _
  rw [h2]
  constructor
  · rintro ⟨a, a1, rfl, _, a3⟩
    have := h.d a (by rw [← h.len]; exact a1) k j hj a3
    rw [my, List.take_length] at this
    exact this
  · intro hx
    obtain ⟨x0, x10⟩ := ok.rng x hx
    obtain ⟨a, rfl⟩ : ∃ a : Nat, x = a := ⟨x.toNat, by omega⟩
    have := h.e k j hj a (by omega) (by rw [cp, List.take_length]; exact hx)
    exact ⟨a, by rw [h.len]; omega, rfl, by omega, this⟩
theorem Inv.none (h : Inv S J) {k : Nat} {j : Jb} (hj : J[k]? = some j) (hs : j.s = 2 * j.L.length + 1) : heS S k = [] := by
  obtain ⟨h1, h2⟩ := heN_spec (S := S) (w := (k : Int)) S.length
  have cp : capJ j.L.length j.s = 0 := by unfold capJ; rw [if_neg (by omega)]; omega
  have my : mayJ j.L.length j.s = 0 := by unfold mayJ; rw [if_neg (by omega), cp]
  unfold heS
  cases hh : heN S k S.length with
  | nil => rfl
  | cons x l =>
    have : x ∈ heN S k S.length := by rw [hh]; simp
    obtain ⟨a, a1, rfl, _, a3⟩ := (h2 x).1 this
    have := h.d a (by rw [← h.len]; exact a1) k j hj a3
    rw [my, List.take_zero] at this
    simp at this
end
end
end Go.Proofs.Ythfccacopffkgaa
