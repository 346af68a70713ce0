/- Layer 12: eight jobs in memory. -/
import Derived.Test.YthfccacopffkgaaLkV
namespace Go.Proofs.Ythfccacopffkgaa
open Go.Am
set_option linter.unusedSimpArgs false
set_option linter.unusedVariables false
noncomputable section
set_option maxRecDepth 100000

def jbc (j : Jb) : List Sc := jbC j.nx j.L.length j.s []
theorem jbc_l (j : Jb) : (jbc j).length = 4 := rfl
theorem jbc_set {J : List Jb} {k : Nat} (hk : k < J.length) (y : Jb) : (J.set k y).flatMap jbc = (J.take k).flatMap jbc ++ jbC y.nx y.L.length y.s ((J.drop (k + 1)).flatMap jbc) := by
  rw [List.set_eq_take_append_cons_drop, if_pos hk, List.flatMap_append, List.flatMap_cons]; rfl
theorem jbc_pre {J : List Jb} {k : Nat} (hk : k < J.length) : ((J.take k).flatMap jbc).length = k * 4 := by rw [fm_len jbc_l, List.length_take, Nat.min_eq_left (by omega)]
theorem jbc_at {J : List Jb} {k : Nat} {j : Jb} (h : J[k]? = some j) : J.flatMap jbc = (J.take k).flatMap jbc ++ jbC j.nx j.L.length j.s ((J.drop (k + 1)).flatMap jbc) := by
  have e := set_sameJ h
  have e2 : ({ j with s := j.s } : Jb) = j := rfl
  rw [e2] at e
  have := jbc_set (getJ_lt h) j
  rw [e] at this
  exact this
theorem jbc_wr {J : List Jb} {k : Nat} (hk : k < J.length) (y : Jb) : wr (J.flatMap jbc) (k * 4) (jbc y) = (J.set k y).flatMap jbc := by
  obtain ⟨j, hj⟩ : ∃ j, J[k]? = some j := ⟨_, List.getElem?_eq_getElem hk⟩
  rw [jbc_set hk, jbc_at hj]
  have pl := jbc_pre hk
  rw [wr_un, jbc_l, List.take_append, List.take_of_length_le (by omega), pl, Nat.sub_self, List.take_zero, List.append_nil, List.drop_append, List.drop_eq_nil_of_le (by omega), pl, Nat.add_sub_cancel_left, List.append_assoc]
  rfl
theorem max_put {J : List Jb} {k : Nat} {j y : Jb} (h : J[k]? = some j) : maxS (J.set k y) + (2 * j.L.length + 1) = maxS J + (2 * y.L.length + 1) := by
  induction J generalizing k with
  | nil => simp at h
  | cons a J ih =>
    cases k with
    | zero =>
      simp only [List.getElem?_cons_zero, Option.some.injEq] at h
      subst h
      simp only [maxS, List.set_cons_zero, List.map_cons, List.sum_cons]
      omega
    | succ k =>
      have := ih (show J[k]? = some j by simpa using h)
      simp only [maxS, List.set_cons_succ, List.map_cons, List.sum_cons] at this ⊢
      omega
theorem Inv.init {J : List Jb} (jl : J.length = 8) (h : ∀ j ∈ J, j.s = 0 ∧ j.L.Pairwise (fun x y => x < y) ∧ ∀ a ∈ j.L, 0 ≤ a ∧ a < 10) : Inv (L0 10) J := by
  have at0 : ∀ a : Nat, a < 10 → atS (L0 10) a = (-1, []) := fun a ha => by
    have : a < (L0 10).length := by simpa [L0] using ha
    unfold atS
    rw [Int.toNat_natCast, List.getD_eq_getElem?_getD, List.getElem?_eq_getElem this]
    simp only [L0, Option.getD_some, List.getElem_replicate]
  refine ⟨by simp [L0], jl, fun j hj => ⟨(h j hj).2.1, (h j hj).2.2, by rw [(h j hj).1]; omega⟩, fun a ha _ => by rw [at0 a ha], fun a ha => by rw [at0 a ha]; decide, fun a ha => by rw [at0 a ha]; exact List.nodup_nil, fun a ha w hw => by rw [at0 a ha] at hw; simp at hw, fun a ha k j _ hk => by rw [at0 a ha] at hk; simp only at hk; omega, fun k j hj a ha hm => ?_⟩
  have := (h j (List.mem_of_getElem? hj)).1
  rw [this] at hm
  unfold capJ at hm
  rw [if_pos (Nat.zero_le _), List.take_zero] at hm
  simp at hm
section
variable {G : AH}
structure GI (G K : AH) (D : Ld) (J : List Jb) : Prop where
  li : LI K D
  dn : D.n = 10
  dp : D.p = G.length + 1
  ids : ∀ i ∈ D.ids, G.length ≤ i ∧ i ≠ G.length + 2
  len : G.length + 3 ≤ K.length
  old : ∀ i, i < G.length → hg K i = hg G i
  o : hg K (G.length + 2) = .own (J.flatMap jbc)
  jl : J.length = 8
  nx : ∀ j ∈ J, slP dcI K j.nx = some j.L ∧ (∀ i, sidI j.nx = some i → G.length + 3 ≤ i ∧ i < K.length ∧ i ∉ D.ids) ∧ j.L.length ≤ 6
theorem GI.grw {K K1 : AH} {D : Ld} {J : List Jb} (I : GI G K D J) (g : Grw K K1) : GI G K1 D J := by
  have l := g.len
  have lK := I.len
  refine ⟨I.li.grw g, I.dn, I.dp, I.ids, by omega, fun i hi => by rw [g.old i (by omega), I.old i hi], by rw [g.old _ (by omega), I.o], I.jl, fun j hj => ?_⟩
  obtain ⟨h1, h2, h3⟩ := I.nx j hj
  exact ⟨slP_frame h1 fun i hi => g.old i (h2 i hi).2.1, fun i hi => ⟨(h2 i hi).1, by have := (h2 i hi).2.1; omega, (h2 i hi).2.2⟩, h3⟩
/-- the jobs' own cells are told anew -/
theorem GI.put {K K1 : AH} {D E : Ld} {J Q : List Jb} {S : LS} {cs : List Sc} (I : GI G K D J) (h : JSt K K1 D E (G.length + 2) S cs) (hc : cs = Q.flatMap jbc) (hq : Q.length = 8) (hn : ∀ y ∈ Q, ∃ j ∈ J, y.nx = j.nx ∧ y.L = j.L) : GI G K1 E Q := by
  have l := h.len
  have lK := I.len
  have eids : ∀ i ∈ E.ids, G.length ≤ i ∧ i ≠ G.length + 2 := fun i hi => by
    rcases h.ids i hi with g | g
    · exact I.ids i g
    · omega
  refine ⟨h.li, h.n.trans I.dn, h.p.trans I.dp, eids, by omega, fun i hi => ?_, by rw [h.o, hc], hq, fun y hy => ?_⟩
  · rw [h.old i (by omega) (fun c => by have := (I.ids i c).1; omega) (by omega), I.old i hi]
  · obtain ⟨j, hj, e1, e2⟩ := hn y hy
    obtain ⟨h1, h2, h3⟩ := I.nx j hj
    rw [e1, e2]
    refine ⟨slP_frame h1 fun i hi => ?_, fun i hi => ?_, h3⟩
    · obtain ⟨a, b, c⟩ := h2 i hi
      exact h.old i b c (by omega)
    · obtain ⟨a, b, c⟩ := h2 i hi
      refine ⟨a, by omega, fun c2 => ?_⟩
      rcases h.ids i c2 with g | g
      · exact c g
      · omega
theorem GI.step {K : AH} {D : Ld} {J : List Jb} (I : GI G K D J) (hI : Inv D.S J) {k : Nat} (hk : k < 8) : ∃ K1 E, s_gstep [.c (.p (G.length + 1) 0 0), .c (.p (G.length + 2) (k * 4) 0), .c (.i k)] K = some (.c (.b true), K1) ∧ K.length ≤ K1.length ∧ GI G K1 E (goJ (D.S, J) k).2 ∧ E.S = (goJ (D.S, J) k).1 := by
  obtain ⟨j, hj⟩ : ∃ j, J[k]? = some j := ⟨_, List.getElem?_eq_getElem (by rw [I.jl]; exact hk)⟩
  obtain ⟨h1, h2, h3⟩ := I.nx j (List.mem_of_getElem? hj)
  have pl := jbc_pre (J := J) (k := k) (by rw [I.jl]; exact hk)
  obtain ⟨K1, E, e1, e2⟩ := s_gstep_ex (w := (k : Int)) I.li (id := G.length + 2) (A := (J.take k).flatMap jbc) (B := (J.drop (k + 1)).flatMap jbc) (by rw [I.o, jbc_at hj]) h1 (hI.ok j (List.mem_of_getElem? hj)).s (fun c => (I.ids _ c).2 rfl) (fun i hi => ⟨(h2 i hi).2.2, by have := (h2 i hi).1; omega, (h2 i hi).2.1⟩) (by omega) (fun c => hI.held hj c)
  rw [I.dp, pl] at e1
  rw [goJ_eq hj]
  refine ⟨K1, E, e1, e2.len, I.put e2 (jbc_set (getJ_lt hj) { j with s := stN D.S k j.L j.s }).symm (by rw [List.length_set, I.jl]) fun y hy => ?_, e2.s⟩
  rcases List.mem_or_eq_of_mem_set hy with g | rfl
  · exact ⟨y, g, rfl, rfl⟩
  · exact ⟨j, List.mem_of_getElem? hj, rfl, rfl⟩
/-- nobody is stuck -/
theorem GI.stk {K : AH} {D : Ld} {J : List Jb} (I : GI G K D J) (hI : Inv D.S J) : ∃ x K1, s_lstk [.c (.p (G.length + 1) 0 0)] K = some (.c x, K1) ∧ (∀ e, lenB (.sl e) (.c x) = some (.c (.i 0))) ∧ K.length ≤ K1.length ∧ GI G K1 D J := by
  obtain ⟨v, K1, h1, l1, B, hB, ⟨x, rfl, x1, x2⟩, x3⟩ := s_lstk_ex I.li
  rw [I.dp] at h1
  rw [hI.unstuck hB] at x1
  refine ⟨x, K1, h1, ?_, l1, I.grw ⟨l1, x3⟩⟩
  intro e
  rcases x1 with ⟨rfl, _⟩ | ⟨i, rfl, _⟩ <;> rfl
/-- all is over -/
theorem GI.over {K : AH} {D : Ld} {J : List Jb} (I : GI G K D J) (hI : Inv D.S J) (hf : sumS J = maxS J) {k : Nat} (hk : k < 8) :
    s_ldone [.c (.p (G.length + 2) (k * 4) 0)] K = some (.c (.b true)) ∧ s_lheld [.c (.p (G.length + 1) 0 0), .c (.i k)] K = some (.c (.sl K.length 0 0 0), K ++ [.vec 1 []]) ∧ GI G (K ++ [.vec 1 []]) D J := by
  obtain ⟨j, hj⟩ : ∃ j, J[k]? = some j := ⟨_, List.getElem?_eq_getElem (by rw [I.jl]; exact hk)⟩
  obtain ⟨h1, h2, h3⟩ := I.nx j (List.mem_of_getElem? hj)
  have pl := jbc_pre (J := J) (k := k) (by rw [I.jl]; exact hk)
  have hs := (sum_le fun j hj => (hI.ok j hj).s).2 hf j (List.mem_of_getElem? hj)
  have d := s_ldone_eq (jb_at (A := (J.take k).flatMap jbc) (B := (J.drop (k + 1)).flatMap jbc) (by rw [I.o, jbc_at hj])) h1
  rw [pl, dn_eq (hI.ok j (List.mem_of_getElem? hj)).s, decide_eq_true (by omega)] at d
  have e := s_lheld_eq I.li (k : Int)
  rw [hI.none hj hs, I.dp] at e
  exact ⟨d, e, I.grw ((Grw.refl).app _)⟩
/-- at first -/
theorem GI.new : GI G (G ++ [.map 0 [], .own [.i 10, .mp G.length], .own ((List.replicate 8 (⟨.nils, [], 0⟩ : Jb)).flatMap jbc)]) ⟨G.length + 1, G.length, 10, 0, []⟩ (List.replicate 8 ⟨.nils, [], 0⟩) ∧ (⟨G.length + 1, G.length, 10, 0, []⟩ : Ld).S = L0 10 := by
  obtain ⟨n1, n2⟩ := LI.new (H := G) (n := 10) (by decide) (by decide)
  refine ⟨⟨by have := n1.app [.own ((List.replicate 8 (⟨.nils, [], 0⟩ : Jb)).flatMap jbc)]; rwa [List.append_assoc] at this, rfl, rfl, fun i hi => ?_, by simp, fun i hi => hg_lt' hi, by rw [hg_len_add]; rfl, rfl, fun j hj => ?_⟩, n2⟩
  · simp only [Ld.ids, List.flatMap_nil, List.mem_cons, List.not_mem_nil, or_false] at hi
    omega
  · obtain rfl := List.eq_of_mem_replicate hj
    exact ⟨rfl, fun i hi => by simp [sidI] at hi, by simp⟩
/-- a plan is put in -/
theorem GI.plan {K : AH} {D : Ld} {J : List Jb} (I : GI G K D J) {k : Nat} (hk : k < 8) {A : List Int} (hA : A.length ≤ 6) (o : AObj) :
    GI G ((K ++ [o, .vec 1 (cmpCI (srt ltI A))]).set (G.length + 2) (.own ((J.set k ⟨.sl (K.length + 1) 0 A.length (nN A).length, nN A, 0⟩).flatMap jbc))) D (J.set k ⟨.sl (K.length + 1) 0 A.length (nN A).length, nN A, 0⟩) := by
  have lK := I.len
  have na := (nN_spec A).2.2
  have gX : ∀ (c : AObj) i, i < K.length → i ≠ G.length + 2 → hg ((K ++ [o, .vec 1 (cmpCI (srt ltI A))]).set (G.length + 2) c) i = hg K i := fun c i hi hne => by rw [hg_set_ne' (fun c => hne c.symm), hg_lt' hi]
  refine ⟨I.li.frame fun i hi => gX _ i (I.li.lt hi) (I.ids i hi).2, I.dn, I.dp, I.ids, by simp; omega, fun i hi => by rw [gX _ i (by omega) (by omega), I.old i hi], by rw [hg_set_same (by simp; omega)], by rw [List.length_set, I.jl], fun y hy => ?_⟩
  rcases List.mem_or_eq_of_mem_set hy with g | rfl
  · obtain ⟨h1, h2, h3⟩ := I.nx y g
    exact ⟨slP_frame h1 fun i hi => gX _ i (h2 i hi).2.1 (by have := (h2 i hi).1; omega), fun i hi => ⟨(h2 i hi).1, by have := (h2 i hi).2.1; simp; omega, (h2 i hi).2.2⟩, h3⟩
  · refine ⟨slP_plan (by rw [hg_set_ne' (by omega), hg_len_add]; rfl), fun i hi => ?_, by simp only; omega⟩
    simp only [sidI, Option.some.injEq] at hi
    subst hi
    exact ⟨by omega, by simp, fun c => by have := I.li.lt c; omega⟩
/-- what it needs -/
theorem GI.needs {K : AH} {D : Ld} {J : List Jb} (I : GI G K D J) {k : Nat} {j : Jb} (hj : J[k]? = some j) : s_lneeds [.c (.p (G.length + 2) (k * 4) 0)] K = some (.c (.sl K.length 0 j.L.length j.L.length), K ++ [.vec 1 (j.L.flatMap encI)]) := by
  obtain ⟨h1, h2, h3⟩ := I.nx j (List.mem_of_getElem? hj)
  have pl := jbc_pre (getJ_lt hj)
  have := s_lneeds_eq (jb_at (A := (J.take k).flatMap jbc) (B := (J.drop (k + 1)).flatMap jbc) (H := K) (id := G.length + 2) (by rw [I.o, jbc_at hj])) h1 (by omega)
  rwa [pl] at this
end
end
end Go.Proofs.Ythfccacopffkgaa
