/- Layer 12: locks that are played: the law's walk. -/
import Derived.Test.YthfccacopffkgaaLkK
namespace Go.Proofs.Ythfccacopffkgaa
open Go.Am
set_option linter.unusedSimpArgs false
set_option linter.unusedVariables false
noncomputable section
set_option maxRecDepth 100000

section
variable {H : AH}
/-- a deed -/
structure Dd where
  d : Bool
  w : Int
  a : Int
def ddC (x : Dd) : List Sc := [.b x.d, .i x.w, .i x.a]
def dcDd : List Sc → Option Dd
  | [.b d, .i w, .i a] => some ⟨d, w, a⟩
  | _ => none
theorem ddC_l (x : Dd) : (ddC x).length = 3 := rfl
theorem dcDd_e (x : Dd) : dcDd (ddC x) = some x := rfl
theorem dcDd_d (cs : List Sc) (x : Dd) (h : dcDd cs = some x) : cs = ddC x := by unfold dcDd at h; split at h <;> simp_all [ddC]; subst h; exact ⟨rfl, rfl, rfl⟩
/-- the program's locks beside the document's -/
structure LpI (m : Nat) (H K : AH) (D : Ld) (id : Nat) (Y : List Ly) : Prop where
  li : LI K D
  xi : XI K id Y
  s : D.S = lyS Y
  len : H.length ≤ K.length
  old : ∀ i, i < H.length → hg K i = hg H i
  p : D.p = m
  ids : ∀ i ∈ D.ids, H.length ≤ i ∧ i ≠ id ∧ ∀ y ∈ Y, sidI y.x ≠ some i
  x : H.length ≤ id
  y : ∀ y ∈ Y, ∀ i, sidI y.x = some i → H.length ≤ i
theorem LpI.step {m : Nat} {K K1 K2 : AH} {D : Ld} {id : Nat} {Y : List Ly} {S : LS} (h : LpI m H K D id Y) (h1 : LStep K K1 D S) (h2 : XI K1 id Y → XStep K1 K2 id Y S) : ∃ E Z, LpI m H K2 E id Z ∧ E.S = S ∧ E.n = D.n ∧ Z.length = Y.length := by
  obtain ⟨E, e1, e2, e3⟩ := h1
  have hx1 : XI K1 id Y := h.xi.frame (e2.old id h.xi.lt fun c => (h.ids id c).2.1 rfl) fun y hy i hi => e2.old i (isx_lt (h.xi.q y hy) hi).1 fun c => (h.ids i c).2.2 y hy hi
  obtain ⟨Z, z1, z2, z3⟩ := h2 hx1
  have nid : ∀ i ∈ E.ids, i ≠ id := by
    intro i hi c
    rcases e2.ids i hi with g | g
    · exact (h.ids i g).2.1 c
    · have := h.xi.lt; omega
  refine ⟨E, Z, ⟨e1.frame fun i hi => z2.old i (e1.lt hi) (nid i hi), z1, by rw [e3, z3], by have := e2.len; have := z2.len; have := h.len; omega, fun i hi => ?_, e2.p.trans h.p, fun i hi => ?_, h.x, fun z hz i hi => ?_⟩, e3, e2.n, z2.n⟩
  · have l1 := h.len
    have l2 := e2.len
    rw [z2.old i (by omega) (by have := h.x; omega), e2.old i (by omega) (fun c => by have := (h.ids i c).1; omega), h.old i hi]
  · have hlt := e1.lt hi
    refine ⟨?_, nid i hi, fun z hz c => ?_⟩
    · rcases e2.ids i hi with g | g
      · exact (h.ids i g).1
      · have := h.len; omega
    · rcases z2.ids z hz i c with ⟨y, hy, g⟩ | g
      · have hlt2 := (isx_lt (h.xi.q y hy) g).1
        rcases e2.ids i hi with k | k
        · exact (h.ids i k).2.2 y hy g
        · omega
      · omega
  · rcases z2.ids z hz i hi with ⟨y, hy, g⟩ | g
    · exact h.y y hy i g
    · have := e2.len; have := h.len; omega
theorem LpI.okQ {m : Nat} {K : AH} {D : Ld} {id : Nat} {Y : List Ly} (h : LpI m H K D id Y) : OkQ (lyS Y) := by rw [← h.s]; exact h.li.okQ
theorem LpI.okS {m : Nat} {K : AH} {D : Ld} {id : Nat} {Y : List Ly} (h : LpI m H K D id Y) : OkS (lyS Y) := by rw [← h.s]; exact h.li.okS
theorem LpI.ylen {m : Nat} {K : AH} {D : Ld} {id : Nat} {Y : List Ly} (h : LpI m H K D id Y) : Y.length ≤ 1000 := by
  have := S_lenI h.li
  rw [h.s, lyS_len] at this
  have := h.li.n128
  omega
theorem LpI.take {m : Nat} {K : AH} {D : Ld} {id : Nat} {Y : List Ly} (h : LpI m H K D id Y) (w a : Int) : ∃ K1 K2 b E Z, s_ltake [.c (.p m 0 0), .c (.i w), .c (.i a)] K = some (.c (.b b), K1) ∧ s_rltake [xV id Y, .c (.i w), .c (.i a)] K1 = some (.c (.b b), K2) ∧ (∀ i, i < H.length → hg K1 i = hg H i) ∧
    LpI m H K2 E id Z ∧ E.n = D.n ∧ Z.length = Y.length := by
  obtain ⟨K1, h1, l1, h2⟩ := s_ltake_ex h.li w a
  have h2' := h2
  obtain ⟨E, e1, e2, e3⟩ := h2'
  have hx1 : XI K1 id Y := h.xi.frame (e2.old id h.xi.lt fun c => (h.ids id c).2.1 rfl) fun y hy i hi => e2.old i (isx_lt (h.xi.q y hy) hi).1 fun c => (h.ids i c).2.2 y hy hi
  obtain ⟨K2, h3, l3, h4⟩ := s_rltake_ex hx1 h.okS h.okQ w a
  rw [← h.s] at h3 h4
  rw [h.p] at h1
  obtain ⟨F, Z, g1, g2, g3, g4⟩ := h.step h2 (fun _ => h4)
  exact ⟨K1, K2, _, F, Z, h1, h3, fun i hi => by rw [e2.old i (by have := h.len; omega) (fun c => by have := (h.ids i c).1; omega), h.old i hi], g1, g3, g4⟩
theorem LpI.drop {m : Nat} {K : AH} {D : Ld} {id : Nat} {Y : List Ly} (h : LpI m H K D id Y) (w a : Int) : ∃ K1 K2 b E Z, s_ldrop [.c (.p m 0 0), .c (.i w), .c (.i a)] K = some (.c (.b b), K1) ∧ s_rldrop [xV id Y, .c (.i w), .c (.i a)] K1 = some (.c (.b b), K2) ∧ (∀ i, i < H.length → hg K1 i = hg H i) ∧
    LpI m H K2 E id Z ∧ E.n = D.n ∧ Z.length = Y.length := by
  obtain ⟨K1, h1, l1, h2⟩ := s_ldrop_ex h.li w a
  have h2' := h2
  obtain ⟨E, e1, e2, e3⟩ := h2'
  have hx1 : XI K1 id Y := h.xi.frame (e2.old id h.xi.lt fun c => (h.ids id c).2.1 rfl) fun y hy i hi => e2.old i (isx_lt (h.xi.q y hy) hi).1 fun c => (h.ids i c).2.2 y hy hi
  obtain ⟨K2, h3, l3, h4⟩ := s_rldrop_ex hx1 h.okQ w a
  rw [← h.s] at h3 h4
  rw [h.p] at h1
  obtain ⟨F, Z, g1, g2, g3, g4⟩ := h.step h2 (fun _ => h4)
  exact ⟨K1, K2, _, F, Z, h1, h3, fun i hi => by rw [e2.old i (by have := h.len; omega) (fun c => by have := (h.ids i c).1; omega), h.old i hi], g1, g3, g4⟩
theorem LpI.grw {m : Nat} {K J : AH} {D : Ld} {id : Nat} {Y : List Ly} (h : LpI m H K D id Y) (g : Grw K J) : LpI m H J D id Y :=
  ⟨h.li.grw g, h.xi.grw g, h.s, Nat.le_trans h.len g.len, fun i hi => by rw [g.old i (Nat.lt_of_lt_of_le hi h.len), h.old i hi], h.p, h.ids, h.x, h.y⟩
theorem LpI.same {m : Nat} {K : AH} {D : Ld} {id : Nat} {Y : List Ly} (h : LpI m H K D id Y) : s_lsame [.c (.p m 0 0), xV id Y] K = some (.c (.b true)) := by
  have := s_lsame_eq h.li h.xi h.s
  rwa [h.p] at this
/-- who is stuck, by both -/
theorem LpI.stk {m : Nat} {K : AH} {D : Ld} {id : Nat} {Y : List Ly} (h : LpI m H K D id Y) : ∃ x K1 y K2, s_lstk [.c (.p m 0 0)] K = some (.c x, K1) ∧ s_rlstk [xV id Y] K1 = some (.c y, K2) ∧ s_ints [.c x, .c y] K2 = some (.c (.b true)) ∧ LpI m H K2 D id Y := by
  obtain ⟨v, K1, h1, l1, B, hB, ⟨x, rfl, x1, x2⟩, x3⟩ := s_lstk_ex h.li
  have g1 : Grw K K1 := ⟨l1, x3⟩
  have h2 := s_rlstk_eq (h.xi.grw g1) h.okQ h.ylen
  rw [h.s] at hB
  rw [bsF_gfp hB] at h2
  rw [h.p] at h1
  have tl : (trB B).length ≤ 8 := trN_len 8
  refine ⟨x, K1, _, _, h1, h2, s_ints_eq (A := trB B) (isx_sp (isx_app _ x1)) (isx_sp (.inr ⟨_, rfl, by rw [hg_len]; rfl⟩)) (by omega), h.grw (g1.app _)⟩
/-- at first -/
theorem LpI.new {n : Int} (h1 : 1 ≤ n) (h2 : n ≤ 128) : LpI (H.length + 1) H (H ++ [.map 0 [], .own [.i n, .mp H.length], .vec 2 ((yN n.toNat).flatMap lyC)]) ⟨H.length + 1, H.length, n, 0, []⟩ (H.length + 2) (yN n.toNat) := by
  obtain ⟨n1, n2⟩ := LI.new (H := H) h1 h2
  refine ⟨by have := n1.app [.vec 2 ((yN n.toNat).flatMap lyC)]; rwa [List.append_assoc] at this, ⟨by rw [hg_len_add]; rfl, fun y hy => ?_⟩, ?_, by simp, fun i hi => hg_lt' hi, rfl, fun i hi => ?_, by omega, fun y hy i hi => ?_⟩
  · obtain rfl := List.eq_of_mem_replicate hy
    exact .inl ⟨rfl, rfl⟩
  · rw [n2]; unfold L0 lyS yN; rw [List.map_replicate]
  · simp only [Ld.ids, List.flatMap_nil, List.mem_cons, List.not_mem_nil, or_false] at hi
    refine ⟨by rcases hi with rfl | rfl <;> omega, by rcases hi with rfl | rfl <;> omega, fun y hy c => ?_⟩
    obtain rfl := List.eq_of_mem_replicate hy
    simp [sidI] at c
  · obtain rfl := List.eq_of_mem_replicate hy
    simp [sidI] at hi
/-- a copy that is changed -/
theorem LpI.clo {m : Nat} {K K1 K2 : AH} {D E : Ld} {id : Nat} {Y : List Ly} {S : LS} (h : LpI m H K D id Y) (hc : LCp K K1 D E) (hs : LStep K1 K2 E S) : LpI m H K2 D id Y := by
  obtain ⟨F, f1, f2, f3⟩ := hs
  refine h.grw ⟨by have := f2.len; have := hc.len; omega, fun i hi => ?_⟩
  rw [f2.old i (by have := hc.len; omega) (fun c => by have := hc.ids i c; omega), hc.old i hi]
end
end
end Go.Proofs.Ythfccacopffkgaa
