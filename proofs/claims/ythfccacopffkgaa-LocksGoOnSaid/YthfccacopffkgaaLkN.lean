/- Layer 12: a job's step, told plainly. -/
import Derived.Test.YthfccacopffkgaaLkM
namespace Go.Proofs.Ythfccacopffkgaa
open Go.Am
set_option linter.unusedSimpArgs false
set_option linter.unusedVariables false
noncomputable section
set_option maxRecDepth 100000

/-! ### plain -/
def stV (S : LS) (w : Int) (L : List Int) (s : Nat) : Int :=
  if 2 * L.length < s then 4 else if s < L.length then (if tkB S w (L.getD s 0) = true then 1 else 0) else if s = L.length then (if L.length = 0 then 4 else 2) else (if 2 * L.length < s + 1 then 4 else 3)
def stN (S : LS) (w : Int) (L : List Int) (s : Nat) : Nat := if 2 * L.length < s then s else if s < L.length then (if tkB S w (L.getD s 0) = true then s + 1 else s) else s + 1
def stS (S : LS) (w : Int) (L : List Int) (s : Nat) : LS := if 2 * L.length < s then S else if s < L.length then tkS S w (L.getD s 0) else if s = L.length then S else drS S w (L.getD (2 * L.length - s) 0)
section
variable {H : AH} {D : Ld}
/-- a job in memory: what it needs, and how many steps it did -/
def jbC (nx : Sc) (n s : Nat) (B : List Sc) : List Sc := nx :: .i ((min s n : Nat) : Int) :: .b (decide (n < s)) :: .i ((s - (n + 1) : Nat) : Int) :: B
theorem jb_at {id : Nat} {A B : List Sc} {nx : Sc} {n s : Nat} (ho : hg H id = .own (A ++ jbC nx n s B)) : jbA H id A.length = some (nx, ((min s n : Nat) : Int), decide (n < s), ((s - (n + 1) : Nat) : Int)) := jbA_own ho rfl
theorem set_a {A B : List Sc} {a b c d x : Sc} : (A ++ (a :: b :: c :: d :: B)).set (A.length + 1) x = A ++ (a :: x :: c :: d :: B) ∧ (A ++ (a :: b :: c :: d :: B)).set (A.length + 2) x = A ++ (a :: b :: x :: d :: B) ∧ (A ++ (a :: b :: c :: d :: B)).set (A.length + 3) x = A ++ (a :: b :: c :: x :: B) := by
  refine ⟨?_, ?_, ?_⟩ <;> rw [List.set_append_right _ _ (by omega), Nat.add_sub_cancel_left] <;> rfl
/-- behind a step -/
structure JSt (H H1 : AH) (D E : Ld) (id : Nat) (S : LS) (cs : List Sc) : Prop where
  li : LI H1 E
  s : E.S = S
  p : E.p = D.p
  n : E.n = D.n
  len : H.length ≤ H1.length
  old : ∀ i, i < H.length → i ∉ D.ids → i ≠ id → hg H1 i = hg H i
  ids : ∀ i ∈ E.ids, i ∈ D.ids ∨ H.length ≤ i
  o : hg H1 id = .own cs
theorem JSt.of {K : AH} {E : Ld} {id : Nat} {S : LS} {cs cs2 : List Sc} (hk : LKp H K D E) (hE : LI K E) (hS : E.S = S) (lid : id < H.length) (hid : id ∉ D.ids) : JSt H (K.set id (.own cs2)) D E id S cs2 := by
  have nid : id ∉ E.ids := fun c => by
    rcases hk.ids id c with g | g
    · exact hid g
    · omega
  have lK := hk.len
  exact ⟨hE.frame fun i hi => hg_set_ne' (fun c => nid (c ▸ hi)), hS, hk.p, hk.n, by simpa using hk.len, fun i hi hn hne => by rw [hg_set_ne' (fun c => hne c.symm), hk.old i hi hn], hk.ids, hg_set_same (by omega)⟩
/-- all but what a job is for -/
theorem s_lstep_ex (h : LI H D) {id : Nat} {A B : List Sc} {nx : Sc} {L : List Int} {s : Nat} {w : Int} (hj : hg H id = .own (A ++ jbC nx L.length s B)) (hL : slP dcI H nx = some L) (hs : s ≤ 2 * L.length + 1) (hn : s ≠ L.length) (hid : id ∉ D.ids)
    (hnx : ∀ i, sidI nx = some i → i ∉ D.ids ∧ i ≠ id) (hlen : L.length ≤ 1000) (fn : Nat) (caps : List (Nat × Nat × Nat)) :
    ∃ H1 E, s_lstep [.c (.p id A.length 0), .c (.p D.p 0 0), .c (.i w), .c (.f fn caps)] H = some (.c (.i (stV D.S w L s)), H1) ∧ JSt H H1 D E id (stS D.S w L s) (A ++ jbC nx L.length (stN D.S w L s) B) := by
  have hjb := jb_at hj
  have lid : id < H.length := hg_lt (by rw [hj]; rfl)
  have k1 : ¬ (sidI nx = some id) := fun c => (hnx id c).2 rfl
  have hb : ¬ (sidI nx = some id) ∧ (0 : Int) ≤ ((min s L.length : Nat) : Int) ∧ (0 : Int) ≤ ((s - (L.length + 1) : Nat) : Int) ∧ L.length ≤ 1000000 := ⟨k1, by omega, by omega, by omega⟩
  unfold s_lstep
  simp only [hjb, hL]
  rw [if_pos hb]
  by_cases c1 : 2 * L.length < s
  · have hd : dnJ L (decide (L.length < s)) ((s - (L.length + 1) : Nat) : Int) = true := by
      unfold dnJ
      rw [decide_eq_true (show L.length < s by omega), Bool.true_and]
      exact decide_eq_true (by omega)
    rw [if_pos hd]
    unfold stV stS stN
    rw [if_pos c1, if_pos c1, if_pos c1]
    exact ⟨H, D, rfl, h, rfl, rfl, rfl, Nat.le_refl _, fun _ _ _ _ => rfl, fun _ hi => .inl hi, hj⟩
  have hd : ¬ (dnJ L (decide (L.length < s)) ((s - (L.length + 1) : Nat) : Int) = true) := by
    unfold dnJ
    simp only [Bool.and_eq_true, decide_eq_true_eq, not_and]
    omega
  rw [if_neg hd]
  by_cases c2 : s < L.length
  · rw [if_pos (show ((min s L.length : Nat) : Int) < L.length by omega)]
    have em : min s L.length = s := by omega
    unfold stTk
    obtain ⟨K, t1, t2, E, e1, e2, e3⟩ := s_ltake_ex h w (L.getD s 0)
    rw [em, Int.toNat_natCast, t1]
    have nid : id ∉ E.ids := fun c => by
      rcases e2.ids id c with g | g
      · exact hid g
      · omega
    have hjK : hg K id = .own (A ++ jbC nx L.length s B) := by rw [e2.old id lid hid, hj]
    unfold stV stS stN
    rw [if_neg c1, if_pos c2, if_neg c1, if_pos c2, if_neg c1, if_pos c2]
    cases hb : tkB D.S w (L.getD s 0) with
    | true =>
      simp only [jb_at hjK, hjK, ownC]
      have ec : (A ++ jbC nx L.length s B).set (A.length + 1) (.i (w64 (((min s L.length : Nat) : Int) + 1))) = A ++ jbC nx L.length (s + 1) B := by
        unfold jbC
        rw [set_a.1, w64_d (by omega) (by omega)]
        have a1 : ((min s L.length : Nat) : Int) + 1 = ((min (s + 1) L.length : Nat) : Int) := by omega
        have a2 : decide (L.length < s) = decide (L.length < s + 1) := by rw [decide_eq_false (show ¬ L.length < s by omega), decide_eq_false (show ¬ L.length < s + 1 by omega)]
        have a3 : s - (L.length + 1) = s + 1 - (L.length + 1) := by omega
        rw [a1, a2, a3]
      rw [ec]
      exact ⟨_, E, rfl, JSt.of (cs := []) e2 e1 e3 lid hid⟩
    | false =>
      exact ⟨K, E, rfl, e1, e3, e2.p, e2.n, e2.len, fun i hi hn _ => e2.old i hi hn, e2.ids, hjK⟩
  · rw [if_neg (show ¬ ((min s L.length : Nat) : Int) < L.length by omega)]
    have c3 : L.length < s := by omega
    rw [decide_eq_true c3]
    rw [if_neg (by decide), if_pos (show ((s - (L.length + 1) : Nat) : Int) < L.length by omega)]
    unfold stGv
    rw [hj]
    simp only [ownC]
    have ec : (A ++ jbC nx L.length s B).set (A.length + 3) (.i (((s - (L.length + 1) : Nat) : Int) + 1)) = A ++ jbC nx L.length (s + 1) B := by
      unfold jbC
      rw [set_a.2.2]
      have a1 : min s L.length = min (s + 1) L.length := by omega
      have a2 : decide (L.length < s) = decide (L.length < s + 1) := by rw [decide_eq_true c3, decide_eq_true (show L.length < s + 1 by omega)]
      have a3 : ((s - (L.length + 1) : Nat) : Int) + 1 = ((s + 1 - (L.length + 1) : Nat) : Int) := by omega
      rw [a1, a2, a3]
    rw [ec]
    have ej : ((L.length : Int) - (((s - (L.length + 1) : Nat) : Int) + 1)).toNat = 2 * L.length - s := by omega
    rw [ej]
    have h' : LI (H.set id (.own (A ++ jbC nx L.length (s + 1) B))) D := h.frame fun i hi => hg_set_ne' (fun c => hid (c ▸ hi))
    obtain ⟨K, t1, t2, E, e1, e2, e3⟩ := s_ldrop_ex h' w (L.getD (2 * L.length - s) 0)
    rw [t1]
    have l2 := e2.len
    rw [List.length_set] at l2
    have hjK : hg K id = .own (A ++ jbC nx L.length (s + 1) B) := by rw [e2.old id (by simpa using lid) hid, hg_set_same lid]
    have hLK : slP dcI K nx = some L := slP_frame hL fun i hi => by
      obtain ⟨m1, m2⟩ := hnx i hi
      have li : i < H.length := by
        rcases slP_inv gI_d hL with ⟨rfl, _⟩ | ⟨j, v, rfl, hv, hl, hc⟩
        · simp [sidI] at hi
        · simp only [sidI, Option.some.injEq] at hi
          subst hi
          have : 0 < L.length := by omega
          rcases Nat.lt_or_ge j H.length with h3 | h3
          · exact h3
          · have e0 : (hg H j).cells.length = 0 := by rw [hg_ge H h3]; rfl
            omega
      rw [e2.old i (by simpa using li) m1, hg_set_ne' (fun c => m2 c.symm)]
    have dn := s_ldone_eq (jb_at hjK) hLK
    simp only [dn]
    have dq : (if dnJ L (decide (L.length < s + 1)) ((s + 1 - (L.length + 1) : Nat) : Int) = true then (4 : Int) else 3) = stV D.S w L s := by
      unfold stV
      rw [if_neg c1, if_neg c2, if_neg hn]
      unfold dnJ
      rw [decide_eq_true (show L.length < s + 1 by omega), Bool.true_and]
      by_cases c4 : 2 * L.length < s + 1
      · rw [if_pos (decide_eq_true (by omega)), if_pos c4]
      · rw [if_neg (by simp; omega), if_neg c4]
    rw [dq]
    unfold stS stN
    rw [if_neg c1, if_neg c2, if_neg hn, if_neg c1, if_neg c2]
    refine ⟨K, E, rfl, e1, e3, e2.p, e2.n, l2, fun i hi hnn hne => ?_, fun i hi => ?_, hjK⟩
    · rw [e2.old i (by simpa using hi) hnn, hg_set_ne' (fun c => hne c.symm)]
    · rcases e2.ids i hi with g | g
      · exact .inl g
      · exact .inr (by simpa using g)
/-- what a job is for -/
theorem s_lstep_do {id : Nat} {A B : List Sc} {nx : Sc} {L : List Int} {w : Int} {z : Sc} (hj : hg H id = .own (A ++ jbC nx L.length L.length B)) (hL : slP dcI H nx = some L) (hnx : ¬ (sidI nx = some id)) (hlen : L.length ≤ 1000) {fn : Nat} {caps : List (Nat × Nat × Nat)} {v : AV} {K : AH}
    (ha : s_act fn caps (H.set id (.own (A ++ jbC nx L.length (L.length + 1) B))) = some (v, K)) (hK : hg K id = .own (A ++ jbC nx L.length (L.length + 1) B)) (hLK : slP dcI K nx = some L) :
    s_lstep [.c (.p id A.length 0), .c z, .c (.i w), .c (.f fn caps)] H = some (.c (.i (if L.length = 0 then 4 else 2)), K) := by
  have hjb := jb_at hj
  have hb : ¬ (sidI nx = some id) ∧ (0 : Int) ≤ ((min L.length L.length : Nat) : Int) ∧ (0 : Int) ≤ ((L.length - (L.length + 1) : Nat) : Int) ∧ L.length ≤ 1000000 := ⟨hnx, by omega, by omega, by omega⟩
  unfold s_lstep
  simp only [hjb, hL]
  rw [if_pos hb, if_neg (by unfold dnJ; simp), if_neg (show ¬ ((min L.length L.length : Nat) : Int) < L.length by omega), if_pos (by simp)]
  unfold stDo
  rw [hj]
  simp only [ownC]
  have ec : (A ++ jbC nx L.length L.length B).set (A.length + 2) (.b true) = A ++ jbC nx L.length (L.length + 1) B := by
    unfold jbC
    rw [set_a.2.1]
    have a1 : min L.length L.length = min (L.length + 1) L.length := by omega
    have a2 : (true : Bool) = decide (L.length < L.length + 1) := by rw [decide_eq_true (by omega)]
    have a3 : L.length - (L.length + 1) = L.length + 1 - (L.length + 1) := by omega
    rw [a1, a3, ← a2]
  rw [ec, ha]
  simp only [jb_at hK, hLK]
end
end
end Go.Proofs.Ythfccacopffkgaa
