/- Layer 12: all jobs come to their ends: plain. -/
import Derived.Test.YthfccacopffkgaaLkT
namespace Go.Proofs.Ythfccacopffkgaa
open Go.Am
set_option linter.unusedSimpArgs false
set_option linter.unusedVariables false
noncomputable section
set_option maxRecDepth 100000

def sumS (J : List Jb) : Nat := (J.map (·.s)).sum
def maxS (J : List Jb) : Nat := (J.map fun j => 2 * j.L.length + 1).sum
theorem sum_set : ∀ {J : List Jb} {k : Nat} {j : Jb} {t : Nat}, J[k]? = some j → sumS (J.set k { j with s := t }) + j.s = sumS J + t
  | [], k, j, t, h => by simp at h
  | a :: J, 0, j, t, h => by
    simp only [List.getElem?_cons_zero, Option.some.injEq] at h
    subst h
    simp only [sumS, List.set_cons_zero, List.map_cons, List.sum_cons]
    omega
  | a :: J, k + 1, j, t, h => by
    have := sum_set (t := t) (show J[k]? = some j by simpa using h)
    simp only [sumS, List.set_cons_succ, List.map_cons, List.sum_cons] at this ⊢
    omega
theorem max_set : ∀ {J : List Jb} {k : Nat} {j : Jb} {t : Nat}, J[k]? = some j → maxS (J.set k { j with s := t }) = maxS J
  | [], k, j, t, h => by simp at h
  | a :: J, 0, j, t, h => by
    simp only [List.getElem?_cons_zero, Option.some.injEq] at h
    subst h
    simp only [maxS, List.set_cons_zero, List.map_cons, List.sum_cons]
  | a :: J, k + 1, j, t, h => by
    have := max_set (t := t) (show J[k]? = some j by simpa using h)
    simp only [maxS, List.set_cons_succ, List.map_cons, List.sum_cons] at this ⊢
    omega
theorem sum_le : ∀ {J : List Jb}, (∀ j ∈ J, j.s ≤ 2 * j.L.length + 1) → sumS J ≤ maxS J ∧ (sumS J = maxS J → ∀ j ∈ J, j.s = 2 * j.L.length + 1)
  | [], _ => ⟨Nat.le_refl _, fun _ j hj => by simp at hj⟩
  | a :: J, h => by
    obtain ⟨h1, h2⟩ := sum_le (J := J) fun j hj => h j (by simp [hj])
    have ha := h a (by simp)
    simp only [sumS, maxS, List.map_cons, List.sum_cons] at h1 h2 ⊢
    refine ⟨by omega, fun e j hj => ?_⟩
    rcases List.mem_cons.1 hj with rfl | hj
    · omega
    · exact h2 (by omega) j hj
/-- a step of the k-th job -/
def goJ (x : LS × List Jb) (k : Nat) : LS × List Jb :=
  match x.2[k]? with
  | some j => (stS x.1 k j.L j.s, x.2.set k { j with s := stN x.1 k j.L j.s })
  | none => x
theorem goJ_eq {S : LS} {J : List Jb} {k : Nat} {j : Jb} (h : J[k]? = some j) : goJ (S, J) k = (stS S k j.L j.s, J.set k { j with s := stN S k j.L j.s }) := by
  unfold goJ; rw [h]
section
variable {S : LS} {J : List Jb}
theorem goJ_inv {x : LS × List Jb} (h : Inv x.1 x.2) (k : Nat) : Inv (goJ x k).1 (goJ x k).2 ∧ maxS (goJ x k).2 = maxS x.2 := by
  unfold goJ
  cases hj : x.2[k]? with
  | none => exact ⟨h, rfl⟩
  | some j => exact ⟨h.step hj, max_set hj⟩
/-- nobody holds another lock -/
def SameH (S T : LS) : Prop := ∀ a : Nat, a < 10 → (atS T a).1 = (atS S a).1
theorem goJ_sum {x : LS × List Jb} (h : Inv x.1 x.2) (k : Nat) : sumS x.2 ≤ sumS (goJ x k).2 ∧ (sumS (goJ x k).2 = sumS x.2 → (goJ x k).2 = x.2 ∧ SameH x.1 (goJ x k).1) := by
  unfold goJ
  cases hj : x.2[k]? with
  | none => exact ⟨Nat.le_refl _, fun _ => ⟨rfl, fun _ _ => rfl⟩⟩
  | some j =>
    have e := sum_set (t := stN x.1 k j.L j.s) hj
    have ge : j.s ≤ stN x.1 k j.L j.s := by
      unfold stN
      split
      · exact Nat.le_refl _
      · split
        · split <;> omega
        · omega
    refine ⟨by simp only; omega, fun hs => ?_⟩
    have et : stN x.1 k j.L j.s = j.s := by simp only at hs; omega
    refine ⟨by simp only; rw [et]; exact set_sameJ hj, ?_⟩
    simp only
    unfold stN at et
    unfold stS
    split at et
    · rename_i c; rw [if_pos c]; exact fun _ _ => rfl
    · rename_i c
      rw [if_neg c]
      split at et
      · rename_i c2
        rw [if_pos c2]
        split at et
        · omega
        · rename_i c3
          intro a ha
          unfold tkS
          split
          · rename_i rg
            split
            · rfl
            · rename_i n1
              split
              · rename_i n2
                exfalso
                exact c3 (by unfold tkB; rw [rg, Bool.true_and, decide_eq_true n2, Bool.or_true])
              · split
                · rfl
                · obtain ⟨a1, a2, a3, a4⟩ := rgt_inv rg
                  rw [at_set (by omega)]
                  split
                  · rename_i e2
                    simp only
                    have : j.L.getD j.s 0 = (a : Int) := by omega
                    rw [this]
                  · rfl
          · rfl
      · omega
/-- may a job's next step be done? -/
def Rdy (S : LS) (k : Nat) (j : Jb) : Prop := j.s ≤ 2 * j.L.length ∧ (j.s < j.L.length → ∃ a : Nat, a < 10 ∧ j.L[j.s]? = some (a : Int) ∧ ((atS S a).1 = k ∨ (atS S a).1 < 0))
theorem Rdy.go (h : Inv S J) {k : Nat} {j : Jb} (hj : J[k]? = some j) (hr : Rdy S k j) : stN S k j.L j.s = j.s + 1 := by
  unfold stN
  rw [if_neg (by have := hr.1; omega)]
  by_cases c : j.s < j.L.length
  · rw [if_pos c]
    obtain ⟨a, ha, hl, hh⟩ := hr.2 c
    have k8 := getJ_lt hj
    rw [h.jl] at k8
    have gd : j.L.getD j.s 0 = a := by rw [List.getD_eq_getElem?_getD, hl]; rfl
    rw [gd]
    have rg : rgtS S k a = true := by
      unfold rgtS
      rw [h.len]
      simp only [Bool.and_eq_true, decide_eq_true_eq]
      omega
    rw [if_pos]
    unfold tkB
    rw [rg]
    rcases hh with e | e
    · simp [e]
    · simp [e]
  · rw [if_neg c]
theorem Rdy.same {T : LS} {k : Nat} {j : Jb} (hr : Rdy S k j) (hs : SameH S T) : Rdy T k j :=
  ⟨hr.1, fun c => by
    obtain ⟨a, ha, hl, hh⟩ := hr.2 c
    exact ⟨a, ha, hl, by rw [hs a ha]; exact hh⟩⟩
theorem Inv.ready (h : Inv S J) (hn : sumS J < maxS J) : ∃ k j, J[k]? = some j ∧ Rdy S k j := by
  have key : ∀ (n k : Nat) (j : Jb) (a : Nat), a < 10 → 10 - a = n → J[k]? = some j → j.L[j.s]? = some (a : Int) → ∃ k j, J[k]? = some j ∧ Rdy S k j := by
    intro n
    induction n using Nat.strongRecOn with
    | _ n ih =>
      intro k j a ha hn hj hl
      have js : j.s < j.L.length := by
        rcases Nat.lt_or_ge j.s j.L.length with c2 | c2
        · exact c2
        · rw [List.getElem?_eq_none c2] at hl; simp at hl
      by_cases hh : (atS S a).1 = k ∨ (atS S a).1 < 0
      · exact ⟨k, j, hj, by omega, fun _ => ⟨a, ha, hl, hh⟩⟩
      · have h8 := h.h8 a ha
        obtain ⟨i, hi⟩ : ∃ i : Nat, (atS S a).1 = i := ⟨(atS S a).1.toNat, by omega⟩
        have i8 : i < J.length := by rw [h.jl]; omega
        obtain ⟨x, hx⟩ : ∃ x, J[i]? = some x := ⟨_, List.getElem?_eq_getElem i8⟩
        have hd := h.d a ha i x hx hi
        have okx := (h.ok x (List.mem_of_getElem? hx))
        obtain ⟨p, p1, p2⟩ := mem_take.1 hd
        have xs2 : x.s ≤ 2 * x.L.length := by
          have := okx.s
          rcases Nat.lt_or_ge (2 * x.L.length) x.s with c | c
          · exfalso
            unfold mayJ capJ at p1
            rw [if_neg (by omega), if_neg (by omega)] at p1
            omega
          · exact c
        by_cases xs : x.s < x.L.length
        · obtain ⟨c, hc⟩ : ∃ c, x.L[x.s]? = some c := ⟨_, List.getElem?_eq_getElem xs⟩
          obtain ⟨c0, c10⟩ := okx.rng c (List.mem_of_getElem? hc)
          obtain ⟨b, rfl⟩ : ∃ b : Nat, c = b := ⟨c.toNat, by omega⟩
          unfold mayJ at p1
          rw [if_pos xs] at p1
          rcases Nat.lt_succ_iff_lt_or_eq.1 p1 with q | rfl
          · have up := okx.up
            rw [List.pairwise_iff_getElem] at up
            obtain ⟨l1, e1⟩ := List.getElem?_eq_some_iff.1 p2
            obtain ⟨l2, e2⟩ := List.getElem?_eq_some_iff.1 hc
            have := up p x.s l1 l2 q
            exact ih (10 - b) (by omega) i x b (by omega) rfl hx hc
          · rw [p2, Option.some.injEq] at hc
            have : a = b := by omega
            subst this
            exact ⟨i, x, hx, xs2, fun _ => ⟨a, ha, p2, .inl hi⟩⟩
        · exact ⟨i, x, hx, xs2, fun c => absurd c xs⟩
  have hex : ∃ j ∈ J, j.s ≤ 2 * j.L.length := by
    rcases Classical.em (∃ j ∈ J, j.s ≤ 2 * j.L.length) with c | c
    · exact c
    · exfalso
      have : ∀ {J : List Jb}, (∀ j ∈ J, 2 * j.L.length < j.s) → maxS J ≤ sumS J := by
        intro J
        induction J with
        | nil => intro _; exact Nat.le_refl _
        | cons a J ih =>
          intro hh
          have := ih fun j hj => hh j (by simp [hj])
          have ha := hh a (by simp)
          simp only [sumS, maxS, List.map_cons, List.sum_cons] at this ⊢
          omega
      have := this (J := J) fun j hj => by
        rcases Nat.lt_or_ge (2 * j.L.length) j.s with d | d
        · exact d
        · exact absurd ⟨j, hj, d⟩ c
      omega
  obtain ⟨j, hj, hs⟩ := hex
  obtain ⟨k, hk⟩ := List.getElem?_of_mem hj
  by_cases js : j.s < j.L.length
  · obtain ⟨c, hc⟩ : ∃ c, j.L[j.s]? = some c := ⟨_, List.getElem?_eq_getElem js⟩
    obtain ⟨c0, c10⟩ := (h.ok j hj).rng c (List.mem_of_getElem? hc)
    obtain ⟨b, rfl⟩ : ∃ b : Nat, c = b := ⟨c.toNat, by omega⟩
    exact key _ k j b (by omega) rfl hk hc
  · exact ⟨k, j, hk, hs, fun c => absurd c js⟩
/-- a round, up to the i-th -/
def runR (x : LS × List Jb) : Nat → LS × List Jb
  | 0 => x
  | i + 1 => goJ (runR x i) i
theorem run_inv {x : LS × List Jb} (h : Inv x.1 x.2) : ∀ i, Inv (runR x i).1 (runR x i).2 ∧ maxS (runR x i).2 = maxS x.2 ∧ sumS x.2 ≤ sumS (runR x i).2 ∧ (sumS (runR x i).2 = sumS x.2 → (runR x i).2 = x.2 ∧ SameH x.1 (runR x i).1)
  | 0 => ⟨h, rfl, Nat.le_refl _, fun _ => ⟨rfl, fun _ _ => rfl⟩⟩
  | i + 1 => by
    obtain ⟨h1, h2, h3, h4⟩ := run_inv h i
    obtain ⟨g1, g2⟩ := goJ_inv h1 i
    obtain ⟨g3, g4⟩ := goJ_sum h1 i
    refine ⟨g1, g2.trans h2, Nat.le_trans h3 g3, fun e => ?_⟩
    have e' : sumS (goJ (runR x i) i).2 = sumS x.2 := e
    obtain ⟨k1, k2⟩ := g4 (by omega)
    obtain ⟨k3, k4⟩ := h4 (by omega)
    exact ⟨k1.trans k3, fun a ha => (k2 a ha).trans (k4 a ha)⟩
theorem run_mono {x : LS × List Jb} (h : Inv x.1 x.2) : ∀ (d i : Nat), sumS (runR x i).2 ≤ sumS (runR x (i + d)).2
  | 0, i => Nat.le_refl _
  | d + 1, i => Nat.le_trans (run_mono h d i) (goJ_sum (run_inv h (i + d)).1 (i + d)).1
/-- in each round somebody goes on, till all are done -/
theorem Inv.round {x : LS × List Jb} (h : Inv x.1 x.2) (hn : sumS x.2 < maxS x.2) : sumS x.2 < sumS (runR x 8).2 := by
  obtain ⟨k, j, hj, hr⟩ := h.ready hn
  have k8 := getJ_lt hj
  rw [h.jl] at k8
  obtain ⟨h1, h2, h3, h4⟩ := run_inv h k
  have hm := run_mono h (8 - (k + 1)) (k + 1)
  rw [show k + 1 + (8 - (k + 1)) = 8 by omega] at hm
  have hg := (goJ_sum h1 k).1
  have e0 : runR x (k + 1) = goJ (runR x k) k := rfl
  rw [e0] at hm
  by_cases c : sumS (runR x k).2 = sumS x.2
  · obtain ⟨e1, e2⟩ := h4 c
    have hj' : (runR x k).2[k]? = some j := by rw [e1]; exact hj
    have hs : stN (runR x k).1 k j.L j.s = j.s + 1 := (hr.same e2).go h1 hj'
    have : goJ (runR x k) k = (stS (runR x k).1 k j.L j.s, (runR x k).2.set k { j with s := stN (runR x k).1 k j.L j.s }) := by unfold goJ; rw [hj']
    rw [this] at hm
    have e := sum_set (t := stN (runR x k).1 k j.L j.s) hj'
    simp only at hm
    omega
  · omega
end
end
end Go.Proofs.Ythfccacopffkgaa
