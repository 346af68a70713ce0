/- Layer 12: two jobs, step by step: a round. -/
import Derived.Test.YthfccacopffkgaaLkP
namespace Go.Proofs.Ythfccacopffkgaa
open Go.Am
set_option linter.unusedSimpArgs false
set_option linter.unusedVariables false
noncomputable section
set_option maxRecDepth 100000

section
variable {H : AH}
/-- behind a job's step, with what it is for -/
structure J3 (K K3 : AH) (D E : Ld) (P c : Nat) (S : LS) (cs : List Sc) (dv : Int) : Prop where
  li : LI K3 E
  s : E.S = S
  p : E.p = D.p
  n : E.n = D.n
  len : K.length + 2 ≤ K3.length
  old : ∀ i, i < K.length → i ∉ D.ids → i ≠ P → hg K3 i = hg K i
  ids : ∀ i ∈ E.ids, i ∈ D.ids ∨ K.length + 2 ≤ i
  o : hg K3 P = .own cs
  d : hg K3 c = .own [.i dv]
theorem j3_ex {K : AH} {D : Ld} (h : LI K D) {P : Nat} {A B : List Sc} {nx : Sc} {L : List Int} {s : Nat} {w : Int} {o1 : AObj} (hj : hg K P = .own (A ++ jbC nx L.length s B)) (hL : slP dcI K nx = some L) (hs : s ≤ 2 * L.length + 1) (hid : P ∉ D.ids)
    (hnx : ∀ i, sidI nx = some i → i ∉ D.ids ∧ i ≠ P ∧ i < K.length) (hlen : L.length ≤ 1000) :
    ∃ K3 E, s_lstep [.c (.p P A.length 0), .c (.p D.p 0 0), .c (.i w), .c (.f 26 [(K.length + 1, 0, 0)])] (K ++ [o1, .own [.i 0]]) = some (.c (.i (stV D.S w L s)), K3) ∧
      J3 K K3 D E P (K.length + 1) (stS D.S w L s) (A ++ jbC nx L.length (stN D.S w L s) B) (if s = L.length then 1 else 0) := by
  have lP : P < K.length := hg_lt (by rw [hj]; rfl)
  have h2 := h.app [o1, .own [.i 0]]
  have hj2 : hg (K ++ [o1, .own [.i 0]]) P = .own (A ++ jbC nx L.length s B) := by rw [hg_lt' lP, hj]
  have hL2 : slP dcI (K ++ [o1, .own [.i 0]]) nx = some L := slP_frame hL fun i hi => hg_lt' (hnx i hi).2.2
  have l2 : (K ++ [o1, .own [.i 0]]).length = K.length + 2 := by simp
  have hc2 : hg (K ++ [o1, AObj.own [.i 0]]) (K.length + 1) = .own [.i 0] := by rw [hg_len_add]; rfl
  by_cases c : s = L.length
  · subst c
    have nid : ∀ i ∈ D.ids, i < K.length := fun i hi => h.lt hi
    have ha : s_act 26 [(K.length + 1, 0, 0)] ((K ++ [o1, .own [.i 0]]).set P (.own (A ++ jbC nx L.length (L.length + 1) B))) = some (.t [], ((K ++ [o1, .own [.i 0]]).set P (.own (A ++ jbC nx L.length (L.length + 1) B))).set (K.length + 1) (.own [.i 1])) := by
      unfold s_act
      rw [if_pos rfl]
      show s_ljact [.c (.p (K.length + 1) 0 0)] _ = _
      simp only [s_ljact]
      rw [hg_set_ne' (by omega), hc2]
      rfl
    have e1 : hg (((K ++ [o1, .own [.i 0]]).set P (.own (A ++ jbC nx L.length (L.length + 1) B))).set (K.length + 1) (.own [.i 1])) P = .own (A ++ jbC nx L.length (L.length + 1) B) := by
      rw [hg_set_ne' (by omega), hg_set_same (by omega)]
    have e2 := s_lstep_do (w := w) (z := .p D.p 0 0) hj2 hL2 (fun c => (hnx P c).2.1 rfl) hlen ha e1 (slP_frame hL2 fun i hi => by
      obtain ⟨m1, m2, m3⟩ := hnx i hi
      rw [hg_set_ne' (by omega), hg_set_ne' (fun c => m2 c.symm)])
    have ev : stV D.S w L L.length = if L.length = 0 then 4 else 2 := by
      unfold stV
      by_cases z : 2 * L.length < L.length
      · omega
      · rw [if_neg z, if_neg (Nat.lt_irrefl _), if_pos rfl]
    have es : stS D.S w L L.length = D.S := by
      unfold stS
      rw [if_neg (by omega), if_neg (Nat.lt_irrefl _), if_pos rfl]
    have en : stN D.S w L L.length = L.length + 1 := by
      unfold stN
      rw [if_neg (by omega), if_neg (Nat.lt_irrefl _)]
    rw [ev, es, en, if_pos rfl]
    refine ⟨_, D, e2, ?_, rfl, rfl, rfl, by simp, fun i hi hn hne => ?_, fun i hi => .inl hi, e1, ?_⟩
    · exact h2.frame fun i hi => by
        have := nid i hi
        rw [hg_set_ne' (show K.length + 1 ≠ i by omega), hg_set_ne' (fun c : P = i => hid (by rw [c]; exact hi))]
    · rw [hg_set_ne' (by omega), hg_set_ne' (fun c => hne c.symm), hg_lt' hi]
    · rw [hg_set_same (by simp)]
  · obtain ⟨H1, E, e1, e2⟩ := s_lstep_ex (w := w) h2 hj2 hL2 hs c hid (fun i hi => ⟨(hnx i hi).1, (hnx i hi).2.1⟩) hlen 26 [(K.length + 1, 0, 0)]
    rw [if_neg c]
    have nid : K.length + 1 ∉ D.ids := fun c => by have := h.lt c; omega
    refine ⟨H1, E, e1, e2.li, e2.s, e2.p, e2.n, by have := e2.len; omega, fun i hi hn hne => ?_, fun i hi => ?_, e2.o, ?_⟩
    · rw [e2.old i (by omega) hn hne, hg_lt' hi]
    · rcases e2.ids i hi with g | g
      · exact .inl g
      · exact .inr (by omega)
    · rw [e2.old _ (by omega) nid (by omega), hc2]
/-- two jobs beside the document's -/
structure JI (H K : AH) (D : Ld) (Y : List Ly) (a b : List Int) (s1 s2 : Nat) : Prop where
  lp : LpI (H.length + 1) H K D (H.length + 2) Y
  dn : D.n = 9
  ids : ∀ i ∈ D.ids, i < H.length + 2 ∨ H.length + 11 ≤ i
  y : ∀ y ∈ Y, ∀ i, sidI y.x = some i → H.length + 11 ≤ i
  len : H.length + 11 ≤ K.length
  pj : hg K (H.length + 7) = .own (jbC (.sl (H.length + 4) 0 a.length (nN a).length) (nN a).length s1 (jbC (.sl (H.length + 6) 0 b.length (nN b).length) (nN b).length s2 []))
  qj : hg K (H.length + 10) = .own [.sl (H.length + 8) 0 (nN a).length (nN a).length, .i s1, .sl (H.length + 9) 0 (nN b).length (nN b).length, .i s2]
  v4 : hg K (H.length + 4) = .vec 1 (cmpCI (srt ltI a))
  v6 : hg K (H.length + 6) = .vec 1 (cmpCI (srt ltI b))
  v8 : hg K (H.length + 8) = .vec 1 ((nN a).flatMap encI)
  v9 : hg K (H.length + 9) = .vec 1 ((nN b).flatMap encI)
  b1 : s1 ≤ 2 * (nN a).length + 1
  b2 : s2 ≤ 2 * (nN b).length + 1
theorem JI.far {K : AH} {D : Ld} {Y : List Ly} {a b : List Int} {s1 s2 : Nat} (I : JI H K D Y a b s1 s2) {i : Nat} (h1 : H.length + 2 < i) (h2 : i < H.length + 11) : i ∉ D.ids ∧ i ≠ H.length + 2 ∧ ∀ y ∈ Y, sidI y.x ≠ some i := by
  refine ⟨fun c => ?_, by omega, fun y hy c => ?_⟩
  · rcases I.ids i c with g | g <;> omega
  · have := I.y y hy i c; omega
/-- behind a round: 'X' is what came to the heap behind the document's step, 'q' what the document's jobs are -/
theorem JI.next {K K3 K4 : AH} {D E : Ld} {Y : List Ly} {a b : List Int} {s1 s2 t1 t2 : Nat} {S : LS} {dv : Int} (I : JI H K D Y a b s1 s2)
    (h3 : J3 K K3 D E (H.length + 7) (K.length + 1) S (jbC (.sl (H.length + 4) 0 a.length (nN a).length) (nN a).length t1 (jbC (.sl (H.length + 6) 0 b.length (nN b).length) (nN b).length t2 [])) dv) (h4 : XStep K3 K4 (H.length + 2) Y S) (c1 : t1 ≤ 2 * (nN a).length + 1) (c2 : t2 ≤ 2 * (nN b).length + 1) (X : AH) :
    ∃ Z, hg K4 (H.length + 10) = .own [.sl (H.length + 8) 0 (nN a).length (nN a).length, .i s1, .sl (H.length + 9) 0 (nN b).length (nN b).length, .i s2] ∧ hg K4 (K.length + 1) = .own [.i dv] ∧ K.length + 2 ≤ K4.length ∧ Z.length = Y.length ∧
      JI H ((K4 ++ X).set (H.length + 10) (.own [.sl (H.length + 8) 0 (nN a).length (nN a).length, .i t1, .sl (H.length + 9) 0 (nN b).length (nN b).length, .i t2])) E Z a b t1 t2 := by
  obtain ⟨Z, z1, z2, z3⟩ := h4
  have l3 := h3.len
  have l4 := z2.len
  have lK := I.len
  -- what stays till behind the document's step
  have keep : ∀ i, i < K.length → i ∉ D.ids → i ≠ H.length + 7 → i ≠ H.length + 2 → hg K4 i = hg K i := fun i hi hn h1 h2 => by rw [z2.old i (by omega) h2, h3.old i hi hn h1]
  have near : ∀ i, H.length + 2 < i → i < H.length + 11 → i ≠ H.length + 7 → hg K4 i = hg K i := fun i g1 g2 g3 => keep i (by omega) (I.far g1 g2).1 g3 (by omega)
  have eids : ∀ i ∈ E.ids, i < H.length + 2 ∨ H.length + 11 ≤ i := fun i hi => by
    rcases h3.ids i hi with g | g
    · exact I.ids i g
    · omega
  have zy : ∀ z ∈ Z, ∀ i, sidI z.x = some i → H.length + 11 ≤ i := fun z hz i hi => by
    rcases z2.ids z hz i hi with ⟨y, hy, g⟩ | g
    · exact I.y y hy i g
    · omega
  have hcl : ∀ i ∈ D.ids, i < K.length := fun i hi => I.lp.li.lt hi
  have hE4 : LI K4 E := h3.li.frame fun i hi => z2.old i (h3.li.lt hi) (fun c => by rcases eids i hi with g | g <;> omega)
  have gX : ∀ i, i < K4.length → i ≠ H.length + 10 → ∀ o, hg ((K4 ++ X).set (H.length + 10) o) i = hg K4 i := fun i hi hne o => by rw [hg_set_ne' (fun c => hne c.symm), hg_lt' hi]
  refine ⟨Z, by rw [near _ (by omega) (by omega) (by omega), I.qj], by rw [z2.old _ (by omega) (by omega), h3.d], by omega, z2.n, ⟨⟨?_, ?_, by rw [h3.s, z3], by simp; omega, fun i hi => ?_, h3.p.trans I.lp.p, fun i hi => ?_, by omega, fun z hz i hi => by have := zy z hz i hi; omega⟩, h3.n.trans I.dn, eids, zy, by simp; omega, ?_, ?_, ?_, ?_, ?_, ?_, c1, c2⟩⟩
  · exact hE4.frame fun i hi => gX i (hE4.lt hi) (by rcases eids i hi with g | g <;> omega) _
  · exact z1.frame (gX _ z1.lt (by omega) _) fun z hz i hi => gX i (isx_lt (z1.q z hz) hi).1 (by have := zy z hz i hi; omega) _
  · rw [gX i (by omega) (by omega), keep i (by omega) (fun c => by have := (I.lp.ids i c).1; omega) (by omega) (by omega), I.lp.old i hi]
  · refine ⟨?_, by rcases eids i hi with g | g <;> omega, fun z hz c => ?_⟩
    · rcases h3.ids i hi with g | g
      · exact (I.lp.ids i g).1
      · omega
    · have l := h3.li.lt hi
      rcases z2.ids z hz i c with ⟨y, hy, g⟩ | g
      · rcases h3.ids i hi with k | k
        · exact (I.lp.ids i k).2.2 y hy g
        · have := (isx_lt (I.lp.xi.q y hy) g).1; omega
      · omega
  · rw [gX _ (by omega) (by omega), z2.old _ (by omega) (by omega), h3.o]
  · rw [hg_set_same (by simp; omega)]
  · rw [gX _ (by omega) (by omega), near _ (by omega) (by omega) (by omega), I.v4]
  · rw [gX _ (by omega) (by omega), near _ (by omega) (by omega) (by omega), I.v6]
  · rw [gX _ (by omega) (by omega), near _ (by omega) (by omega) (by omega), I.v8]
  · rw [gX _ (by omega) (by omega), near _ (by omega) (by omega) (by omega), I.v9]
end
end
end Go.Proofs.Ythfccacopffkgaa
