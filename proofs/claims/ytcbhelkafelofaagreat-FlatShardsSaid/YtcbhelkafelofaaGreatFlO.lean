/- Layer 32: what memory answers a world answers: the law. -/
import Derived.Test.YtcbhelkafelofaaGreatFlN
namespace Go.Proofs.YtcbhelkafelofaaGreat
open Go.Am
set_option linter.unusedSimpArgs false
set_option linter.unusedVariables false
noncomputable section
set_option maxRecDepth 100000

def s_fright14 (args : List AV) : Option AV :=
  match args with
  | [.g [.i h, .i t, .i n, .i b]] => some (.c (.b (rightB14 h t n b)))
  | _ => none
theorem s_fright14_eq {h t n b} : s_fright14 [.g [.i h, .i t, .i n, .i b]] = some (.c (.b (rightB14 h t n b))) := rfl
set_option maxRecDepth 100000 in
set_option maxHeartbeats 2000000 in
theorem ok_fright14 : PuOk Tryz.prog 22 s_fright14 := by
  refine pu_ok (tab := []) hmix TabOk.nil Tryz.func22 rfl Tryz.results22 Tryz.ntmps22 (by kernel_rfl) (by kernel_rfl) ?_
  intro args v h
  unfold s_fright14 at h
  split at h
  · rename_i h t n b
    simp only [Option.some.injEq] at h; subst h
    refine ⟨by simp only [List.length_cons, List.length_nil]; decide, rfl, rfl, ?_⟩
    (try simp (config := { maxSteps := 10000000 }) only [go_sem, seval, rightB14, wiI]; repeat (simp (disch := omega) only [w64_d, ipos, ineg, dpos, dneg]; try simp (config := { maxSteps := 10000000 }) only [go_sem, seval, rightB14, wiI]))
    repeat' (first
      | (refine cnd_by (fun h => ?_) (fun h => ?_) <;> (try simp only [decide_eq_true_eq, decide_eq_false_iff_not, Bool.not_eq_true', Bool.not_eq_false', Bool.not_eq_true, Bool.not_eq_false, Bool.and_eq_true, beq_iff_eq, beq_eq_false_iff_ne, ne_eq, Bool.or_eq_true] at h) <;> ((try simp (config := { maxSteps := 10000000 }) only [go_sem, seval, h]; repeat (simp (disch := omega) only [w64_d, ipos, ineg, dpos, dneg]; try simp (config := { maxSteps := 10000000 }) only [go_sem, seval, h]))))
      | (refine grd_by (fun h => ?_) (fun h => ?_) <;> (try simp only [decide_eq_true_eq, decide_eq_false_iff_not, Bool.not_eq_true', Bool.not_eq_false', Bool.not_eq_true, Bool.not_eq_false, Bool.and_eq_true, beq_iff_eq, beq_eq_false_iff_ne, ne_eq, Bool.or_eq_true] at h) <;> ((try simp (config := { maxSteps := 10000000 }) only [go_sem, seval, h]; repeat (simp (disch := omega) only [w64_d, ipos, ineg, dpos, dneg]; try simp (config := { maxSteps := 10000000 }) only [go_sem, seval, h]))))
      | (refine grdd_by (fun h => ?_) (fun h => ?_) <;> (try simp only [decide_eq_true_eq, decide_eq_false_iff_not, Bool.not_eq_true', Bool.not_eq_false', Bool.not_eq_true, Bool.not_eq_false, Bool.and_eq_true, beq_iff_eq, beq_eq_false_iff_ne, ne_eq, Bool.or_eq_true] at h) <;> ((try simp (config := { maxSteps := 10000000 }) only [go_sem, seval, h]; repeat (simp (disch := omega) only [w64_d, ipos, ineg, dpos, dneg]; try simp (config := { maxSteps := 10000000 }) only [go_sem, seval, h])))))
    all_goals (simp_all <;> omega)
  · simp at h
theorem right_F {h t n b : Int} : rightF h t n b = rightB14 h t n b := rfl
theorem rvZ_tab : rvZ = tabC (List.replicate 8 z0) := rfl
theorem memB_0 (j : Nat) : memB [] j = 0#8 := by
  unfold memB lineE lookE
  show Z64.getD (j % 64) 0#8 = 0#8
  unfold Z64
  rw [List.getD_eq_getElem?_getD, List.getElem?_replicate]
  split <;> rfl
theorem byN_0 {N : Nat} : byN (memB []) N = List.replicate N 0 := by
  unfold byN
  apply List.ext_getElem?
  intro j
  rw [List.getElem?_map, List.getElem?_replicate]
  rcases Nat.lt_or_ge j N with h | h
  · rw [List.getElem?_range h, if_pos h]
    simp [memB_0]
  · rw [List.getElem?_eq_none (by simpa using h), if_neg (by omega)]; rfl
section
variable {H K : AH} {x : Sc} {z : ShS} {w : Fw}
structure Tw (K : AH) (x : Sc) (z : ShS) (w : Fw) : Prop where
  s : ShIs K x z
  i : FwI K w
  n1 : w.p ≠ z.id
  n2 : w.p ≠ z.ram.mid
  n3 : w.id ≠ z.id
  n4 : w.id ≠ z.ram.mid
  n5 : w.p ≠ z.ram.id
  n6 : w.id ≠ z.ram.id
def twH (K : AH) (z : ShS) (w : Fw) (M : Nat × MapE) (R : List Sl) (B : List Int) (S : List Sl) : AH := fwSet (shSet K z M R) w B S
theorem twH_len {M : Nat × MapE} {R : List Sl} {B : List Int} {S : List Sl} : (twH K z w M R B S).length = K.length := by unfold twH; rw [fwSet_len, shSet_len]
theorem sh_other {i : Nat} (M : Nat × MapE) (R : List Sl) (h1 : i ≠ z.id) (h2 : i ≠ z.ram.mid) : hg (shSet K z M R) i = hg K i := by
  unfold shSet
  rw [hg_set_ne' (fun c => h1 c.symm), hg_set_ne' (fun c => h2 c.symm)]
theorem fw_other {i : Nat} (B : List Int) (S : List Sl) (h1 : i ≠ w.p) (h2 : i ≠ w.id) : hg (fwSet K w B S) i = hg K i := by
  unfold fwSet
  rw [hg_set_ne' (fun c => h1 c.symm), hg_set_ne' (fun c => h2 c.symm)]
theorem Tw.fi (g : Tw K x z w) (M : Nat × MapE) (R : List Sl) : FwI (shSet K z M R) w := ⟨by rw [sh_other M R g.n1 g.n2]; exact g.i.o, by rw [sh_other M R g.n3 g.n4]; exact g.i.v, g.i.l, g.i.b0, g.i.b1, g.i.lm, g.i.hh⟩
theorem Tw.fw (g : Tw K x z w) (M : Nat × MapE) (R : List Sl) {B : List Int} {S : List Sl} (hB : B.length = w.B.length) (hS : S.length = 8) : FwI (twH K z w M R B S) (w.to B S) := (g.fi M R).set hB hS
theorem Tw.sh (g : Tw K x z w) {M : Nat × MapE} {R : List Sl} (B : List Int) (S : List Sl) (hM : wfE z.ram.n M) (hR : R.length = 8) : ShIs (twH K z w M R B S) x (z.to M R) := by
  have h := g.s.set hM hR
  have hr := h.r
  refine ⟨h.x, ?_, ?_, h.l, h.h1, h.t1⟩
  · show hg (twH K z w M R B S) z.id = _
    unfold twH; rw [fw_other B S g.n1.symm g.n3.symm]; exact h.o
  · unfold twH fwSet
    exact (hr.other g.n6 g.n4).other g.n5 g.n2
theorem Tw.fset (g : Tw K x z w) (M : Nat × MapE) (R : List Sl) {B : List Int} (S : List Sl) (B' : List Int) (S' : List Sl) (hB : B.length = w.B.length) : fwSet (twH K z w M R B S) (w.to B S) B' S' = twH K z w M R B' S' := fwSet_set (g.fi M R) B B' S S' hB
theorem Tw.sset (g : Tw K x z w) (M M' : Nat × MapE) (R R' : List Sl) (B : List Int) (S : List Sl) : shSet (twH K z w M R B S) (z.to M R) M' R' = twH K z w M' R' B S := by
  unfold twH
  rw [← shSet_set g.s M M' R R']
  unfold fwSet shSet
  show (((((((K.set z.ram.mid (mapO M)).set z.id (.own (shC (z.to M R)))).set w.id (.vec 1 (B.flatMap e8F))).set w.p (.own (fwC w S))).set z.ram.mid (mapO M')).set z.id (.own (shC (z.to M' R'))))) = _
  rw [List.set_comm (AObj.own (fwC w S)) (mapO M') g.n2, List.set_comm (AObj.vec 1 (B.flatMap e8F)) (mapO M') g.n4, List.set_comm (AObj.own (fwC w S)) (AObj.own (shC (z.to M' R'))) g.n1, List.set_comm (AObj.vec 1 (B.flatMap e8F)) (AObj.own (shC (z.to M' R'))) g.n3]
  rfl
theorem Tw.bel (g : Tw K x z w) (hK : belH K = true) (M : Nat × MapE) (R : List Sl) (B : List Int) (S : List Sl) : belH (twH K z w M R B S) = true := (g.fi M R).bel (g.s.bel hK M R) B S
theorem Tw.old (g : Tw K x z w) (M : Nat × MapE) (R : List Sl) (B : List Int) (S : List Sl) {i : Nat} (h1 : i ≠ z.id) (h2 : i ≠ z.ram.mid) (h3 : i ≠ w.p) (h4 : i ≠ w.id) : hg (twH K z w M R B S) i = hg K i := by
  unfold twH
  rw [fw_other B S h3 h4, sh_other M R h1 h2]
theorem Tw.nvw (g : Tw K x z w) (M M' : Nat × MapE) (R R' : List Sl) (B B' : List Int) (S S' : List Sl) (X : AH) : nvw (twH K z w M R B S ++ X) (twH K z w M' R' B' S' ++ X) := fun i h1 h2 => by
  have l1 : (twH K z w M R B S).length = K.length := twH_len
  have l2 : (twH K z w M' R' B' S').length = K.length := twH_len
  rcases Nat.lt_or_ge i K.length with c | c
  · rw [hg_lt' (by omega)] at h1 h2 ⊢
    rw [hg_lt' (by omega)]
    by_cases c1 : i = w.p
    · subst c1
      unfold twH fwSet at h2
      rw [hg_set_same (by rw [List.length_set, shSet_len]; exact c)] at h2
      simp [AObj.owned] at h2
    by_cases c2 : i = w.id
    · subst c2
      unfold twH fwSet at h2
      rw [hg_set_ne' g.i.ne, hg_set_same (by rw [shSet_len]; exact c)] at h2
      simp [AObj.owned] at h2
    by_cases c3 : i = z.id
    · subst c3
      unfold twH at h2
      rw [fw_other B' S' c1 c2] at h2
      unfold shSet at h2
      rw [hg_set_same (by rw [List.length_set]; exact c)] at h2
      simp [AObj.owned] at h2
    by_cases c4 : i = z.ram.mid
    · subst c4
      unfold twH at h2
      rw [fw_other B' S' c1 c2] at h2
      unfold shSet at h2
      rw [hg_set_ne' g.s.ne2, hg_set_same c] at h2
      simp [AObj.owned, mapO] at h2
    rw [g.old M R B S c3 c4 c1 c2, g.old M' R' B' S' c3 c4 c1 c2]
  · obtain ⟨j, rfl⟩ : ∃ j, i = K.length + j := ⟨i - K.length, by omega⟩
    rw [← l1, hg_len_add, l1, ← l2, hg_len_add]
end
abbrev St2 := (Nat × MapE) × List Sl
def stp2 (z : ShS) (p : St2) (e : De) : St2 := if (dQ e).k ≤ 8 then (dM (z.to p.1 p.2) (dH e) (dQ e), dR (z.to p.1 p.2) (dH e) (dQ e)) else p
def st2 (z : ShS) (L : List De) (k : Nat) : St2 := (L.take k).foldl (stp2 z) (z.ram.M, z.R)
theorem st2_step {z : ShS} {L : List De} {k : Nat} {e : De} (h : L[k]? = some e) : st2 z L (k + 1) = stp2 z (st2 z L k) e := by
  unfold st2
  rw [List.take_add_one, h, List.foldl_append]; rfl
def byS (z : ShS) (p : St2) : List Int := byN (memB p.1.2) (64 * z.ram.n)
def Rel2 (w : Fw) (z : ShS) (p : St2) : Prop := Rel (w.to (byS z p) p.2) (z.to p.1 p.2)
theorem Rel2.step {w : Fw} {z : ShS} {p : St2} (g : Rel2 w z p) (e : De) : Rel2 w z (stp2 z p e) ∧ ((dQ e).k ≤ 8 → wB (w.to (byS z p) p.2) (dH e) (dQ e) = byS z (stp2 z p e) ∧ wR (w.to (byS z p) p.2) (dH e) (dQ e) = (stp2 z p e).2) := by
  by_cases hk : (dQ e).k ≤ 8
  · obtain ⟨_, _, _, h4⟩ := Rel.step g (dH e) (dQ e)
    have es : stp2 z p e = (dM (z.to p.1 p.2) (dH e) (dQ e), dR (z.to p.1 p.2) (dH e) (dQ e)) := if_pos hk
    rw [es]
    have b := h4.B
    have r := h4.R
    refine ⟨?_, fun _ => ⟨b, r⟩⟩
    have h5 : Rel (w.to (byS z (dM (z.to p.1 p.2) (dH e) (dQ e), dR (z.to p.1 p.2) (dH e) (dQ e))) (dR (z.to p.1 p.2) (dH e) (dQ e))) (z.to (dM (z.to p.1 p.2) (dH e) (dQ e)) (dR (z.to p.1 p.2) (dH e) (dQ e))) := ⟨h4.h, h4.hh, h4.n, h4.wf, rfl, rfl, h4.l, h4.o⟩
    exact h5
  · have es : stp2 z p e = p := if_neg hk
    rw [es]
    exact ⟨g, fun c => absurd c hk⟩
theorem Rel2.all {w : Fw} {z : ShS} {L : List De} (g : Rel2 w z (z.ram.M, z.R)) : ∀ k, k ≤ L.length → Rel2 w z (st2 z L k)
  | 0, _ => g
  | k + 1, h => by
    rw [st2_step (List.getElem?_eq_getElem (show k < L.length by omega))]
    exact ((Rel2.all g k (by omega)).step _).1
theorem ab_ans (d : BitVec 64) (g : Bool) : abin Tryz.prog .neq 34 (.g (anC d g)) (.g (anC d g)) = some (.c (.b false)) := by
  have gT : tagsT Tryz.prog 12 34 = some (Tg.n :: Tg.q :: (List.replicate 8 [Tg.q, .q, .q, .n, .n]).flatten) := by kernel_rfl
  rw [ab_g_neq _ (by kernel_rfl) gT]
  have h : csEq (List.replicate 8 [Tg.q, .q, .q, .n, .n]).flatten zMl zMl = some true := by kernel_rfl
  have : csEq (Tg.n :: Tg.q :: (List.replicate 8 [Tg.q, .q, .q, .n, .n]).flatten) (anC d g) (anC d g) = some true := by
    unfold anC
    simp only [csEq, h, scEq]
    simp
  rw [this]; rfl
section
variable {H : AH}
def s_fshards (args : List AV) (H : AH) : Option AV :=
  match args with
  | [.g [.i h, .i t, .i n, .i b], .c x] =>
    match slD 20 dcD H x with
    | some L => if L.length ≤ 9223372036854775807 then some (.c (.b true)) else none
    | none => none
  | _ => none
set_option maxRecDepth 100000 in
set_option maxHeartbeats 8000000 in
theorem ok_fshards : FpOk Tryz.prog 4 (fun args H => (s_fshards args H).map fun v => (v, H)) := by
  refine fq_ok (s := s_fshards) (tab := [(22, .pu s_fright14), (16, .pu s_flive), (17, .fp s_fnew), (23, .fp s_snew), (8, .fp s_fdoW), (24, .fp s_sdo14), (25, .fq s_stable), (6, .fq s_fresvW), (26, .fq s_tbof), (5, .fq s_fload), (27, .fq s_sram), (28, .fq s_rload10)]) hmix (TabOk.cons (e := .pu s_fright14) ok_fright14 (TabOk.cons (e := .pu s_flive) ok_flive (TabOk.cons (e := .fp s_fnew) ok_fnew (TabOk.cons (e := .fp s_snew) ok_snew (TabOk.cons (e := .fp s_fdoW) ok_fdoW (TabOk.cons (e := .fp s_sdo14) ok_sdo14 (TabOk.cons (e := .fq s_stable) ok_stable (TabOk.cons (e := .fq s_fresvW) ok_fresvW (TabOk.cons (e := .fq s_tbof) ok_tbof (TabOk.cons (e := .fq s_fload) ok_fload (TabOk.cons (e := .fq s_sram) ok_sram (TabOk.cons (e := .fq s_rload10) ok_rload10 TabOk.nil)))))))))))) Tryz.func4 rfl Tryz.results4 Tryz.ntmps4 (by kernel_rfl) (by kernel_rfl) ?_
  intro args H v h hargs hH
  unfold s_fshards at h
  split at h <;> try (simp at h; done)
  rename_i h0 t n b x
  split at h <;> try (simp at h; done)
  rename_i L hL
  split at h <;> try (simp at h; done)
  rename_i hn
  simp only [Option.some.injEq] at h
  subst h
  refine ⟨by simp only [List.length_cons, List.length_nil]; decide, rfl, ?_⟩
  have xl : ∀ e, lenB (.sl e) (.c x) = some (.c (.i L.length)) := by rcases slD_inv dcD_d hL with ⟨rfl, rfl⟩ | ⟨id, v, rfl, _, _⟩ <;> intro e <;> rfl
  have xs : (lenB (.sl 0) (.c x)).isSome = true := by rw [xl]; rfl
  cases hr : rightB14 h0 t n b with
  | false =>
    (try simp (config := { maxSteps := 10000000 }) only [go_sem, seval, s_fright14_eq, hr, s_flive_eq]; repeat (simp (disch := omega) only [w64_d, ipos, ineg, dpos, dneg]; try simp (config := { maxSteps := 10000000 }) only [go_sem, seval, s_fright14_eq, hr, s_flive_eq]))
    exact subH_app _ _
  | true =>
  by_cases n20 : 20 < n
  · (try simp (config := { maxSteps := 10000000 }) only [go_sem, seval, s_fright14_eq, hr, n20, s_flive_eq]; repeat (simp (disch := omega) only [w64_d, ipos, ineg, dpos, dneg]; try simp (config := { maxSteps := 10000000 }) only [go_sem, seval, s_fright14_eq, hr, n20, s_flive_eq]))
    exact subH_app _ _
  by_cases l60 : 60 < L.length
  · have l60' : (60 : Int) < L.length := by omega
    (try simp (config := { maxSteps := 10000000 }) only [go_sem, seval, s_fright14_eq, hr, n20, xl, xs, as_len_y, l60', s_flive_eq]; repeat (simp (disch := omega) only [w64_d, ipos, ineg, dpos, dneg]; try simp (config := { maxSteps := 10000000 }) only [go_sem, seval, s_fright14_eq, hr, n20, xl, xs, as_len_y, l60', s_flive_eq]))
    exact subH_app _ _
  have l60' : ¬ (60 : Int) < L.length := by omega
  have hr2 := hr
  simp only [rightB14, wiI, Bool.and_eq_true, decide_eq_true_eq] at hr2
  obtain ⟨⟨a1, a2⟩, ⟨b1, b2⟩, ⟨c1, c2⟩, d1, d2⟩ := hr2
  obtain ⟨K0, hK0⟩ : ∃ K0 : AH, K0 = H ++ [.own [.i h0, .i t, .i n, .i b]] := ⟨_, rfl⟩
  have l0 : K0.length = H.length + 1 := by rw [hK0]; simp
  obtain ⟨K1, hK1⟩ : ∃ K1 : AH, K1 = K0 ++ nwF K0.length h0 t n b := ⟨_, rfl⟩
  have l1 : K1.length = H.length + 6 := by rw [hK1, List.length_append, l0]; rfl
  obtain ⟨K2, hK2⟩ : ∃ K2 : AH, K2 = K1 ++ nwH K1.length h0 t n b := ⟨_, rfl⟩
  have l2 : K2.length = H.length + 10 := by rw [hK2, List.length_append, l1]; rfl
  have bx : (AV.c x).bel H.length = true := by
    simp only [List.all_cons, Bool.and_eq_true] at hargs
    exact hargs.2.1
  have bK0 : belH K0 = true := by rw [hK0]; exact belH_app hH (by simp only [List.mem_cons, List.not_mem_nil, or_false, forall_eq]; rfl)
  have bK1 : belH K1 = true := by
    rw [hK1]
    refine belH_app bK0 ?_
    unfold nwF
    simp only [List.mem_cons, List.not_mem_nil, or_false, forall_eq_or_imp, forall_eq]
    refine ⟨rfl, rfl, ?_, ?_, ?_⟩
    · simp only [AObj.scs, fbC, List.all_cons, List.all_append, Sc.bel, pf_bel _ (fcC_pf h0 h0.toNat), pf_bel _ (fpC_pf h0), Bool.true_and, Bool.and_true, decide_eq_true_eq]
      simp
    · simp only [AObj.scs, List.all_replicate]; simp [Sc.bel]
    · have m1 : ∀ N, (mlC h0 Z8).all (Sc.bel N) = true := fun N => pf_bel N rfl
      simp only [AObj.scs, wdC, List.all_cons, List.all_append, Sc.bel, m1, pf_bel _ (show rvZ.all Sc.pf = true from rfl), Bool.true_and, Bool.and_true, Bool.and_eq_true, decide_eq_true_eq]
      simp
  have bK2 : belH K2 = true := by rw [hK2]; exact nw_bel bK1
  have hS : ShIs K2 (.p (K1.length + 3) 0 0) (nwS K1.length h0 t n b) := by rw [hK2]; exact nwIs hr
  obtain ⟨w, hw⟩ : ∃ w : Fw, w = ⟨H.length + 5, H.length + 4, h0, t, n, b, List.replicate (64 * n.toNat) 0, List.replicate 8 z0, .p (H.length + 3) 0 0, mlC h0 Z8⟩ := ⟨_, rfl⟩
  have hI : FwI K2 w := by
    obtain ⟨g1, g2⟩ := nwF_at (H := K0) h0 t n b (nwH K1.length h0 t n b)
    have e2 : K0 ++ (nwF K0.length h0 t n b ++ nwH K1.length h0 t n b) = K2 := by rw [hK2, hK1, List.append_assoc]
    rw [e2, l0] at g1 g2
    rw [hw]
    refine ⟨?_, g2, rfl, ?_, ?_, mlC_len h0 Z8_len, a2⟩
    · show hg K2 (H.length + 5) = .own (wdC h0 t n b (.sl (H.length + 4) 0 (List.replicate (64 * n.toNat) (0 : Int)).length (List.replicate (64 * n.toNat) (0 : Int)).length) (tabC (List.replicate 8 z0)) (.p (H.length + 3) 0 0) (mlC h0 Z8))
      rw [List.length_replicate, ← rvZ_tab]; exact g1
    · simp only [List.length_replicate]; omega
    · simp only [List.length_replicate]; omega
  rw [l1] at hS
  obtain ⟨z, hz⟩ : ∃ z : ShS, z = nwS (H.length + 6) h0 t n b := ⟨_, rfl⟩
  rw [← hz] at hS
  have zid : z.id = H.length + 9 := by rw [hz]; rfl
  have zrid : z.ram.id = H.length + 8 := by rw [hz]; rfl
  have zmid : z.ram.mid = H.length + 7 := by rw [hz]; rfl
  have wp : w.p = H.length + 5 := by rw [hw]
  have wid : w.id = H.length + 4 := by rw [hw]
  have zn : z.ram.n = n.toNat := by rw [hz]; rfl
  have tw : Tw K2 (.p (H.length + 9) 0 0) z w := ⟨hS, hI, by omega, by omega, by omega, by omega, by omega, by omega⟩
  have wB0 : w.B.length = 64 * n.toNat := by rw [hw]; simp
  have wh : w.h = h0 := by rw [hw]
  have rel : Rel2 w z (z.ram.M, z.R) := by
    rw [hw, hz]
    refine ⟨rfl, a2, by show n.toNat ≤ 4096; omega, hz ▸ hS.r.w, rfl, rfl, rfl, fun j _ => ?_⟩
    show (List.replicate 8 z0).getD j z0 = z0
    rw [List.getD_eq_getElem?_getD, List.getElem?_replicate]
    split <;> rfl
  have eM : byS z (z.ram.M, z.R) = w.B := by
    have : z.ram.M = (0, []) := by rw [hz]; rfl
    rw [this, hw]
    show byN (memB []) (64 * z.ram.n) = _
    rw [byN_0, zn]
  have eR : z.R = w.R := by rw [hw, hz]; rfl
  have p1 : s_fnew [.g [.i h0, .i t, .i n, .i b]] K0 = some (.t [.c (.p (H.length + 5) 0 0), .c (.i 0)], K1) := by
    simp only [s_fnew]
    rw [right_F, if_pos hr, hK1, l0]
  have p2 : s_snew [.g [.i h0, .i t, .i n, .i b]] K1 = some (.t [.c (.p (H.length + 9) 0 0), .c (.i 0)], K2) := by
    rw [s_snew_eq, if_pos hr, hK2, l1]
  have oC1 : hg K1 H.length = .own [.i h0, .i t, .i n, .i b] := by rw [hK1, hg_lt' (by omega), hK0, hg_len]; rfl
  rw [hK0] at p1
  have rl := Rel2.all (L := L) rel
  obtain ⟨N, hN⟩ : ∃ N, N = H.length + 10 := ⟨_, rfl⟩
  let A : Nat → AH := fun k => twH K2 z w (st2 z L k).1 (st2 z L k).2 (byS z (st2 z L k)) (st2 z L k).2
  let D : Nat → AH := fun k => twH K2 z w (st2 z L k).1 (st2 z L k).2 (byS z (st2 z L (k + 1))) (st2 z L (k + 1)).2
  have lA : ∀ k, (A k).length = N := fun k => by show (twH _ _ _ _ _ _ _).length = _; rw [twH_len, l2, hN]
  have lD : ∀ k, (D k).length = N := fun k => by show (twH _ _ _ _ _ _ _).length = _; rw [twH_len, l2, hN]
  have A0 : A 0 = K2 := by
    show fwSet (shSet K2 z z.ram.M z.R) w (byS z (z.ram.M, z.R)) z.R = K2
    rw [hS.self, eM, eR]
    exact hI.self
  have bA : ∀ k, belH (A k) = true := fun k => tw.bel bK2 _ _ _ _
  have bys : ∀ p, (byS z p).length = w.B.length := fun p => by rw [wB0, ← zn]; exact byN_len
  have fI0 : ∀ k, k ≤ L.length → FwI (A k) (w.to (byS z (st2 z L k)) (st2 z L k).2) := fun k hk => tw.fw _ _ (bys _) (rl k hk).l
  have sI0 : ∀ k, k ≤ L.length → ShIs (A k) (.p (H.length + 9) 0 0) (z.to (st2 z L k).1 (st2 z L k).2) := fun k hk => tw.sh _ _ (rl k hk).wf (rl k hk).l
  have sD0 : ∀ k, k ≤ L.length → ShIs (D k) (.p (H.length + 9) 0 0) (z.to (st2 z L k).1 (st2 z L k).2) := fun k hk => tw.sh _ _ (rl k hk).wf (rl k hk).l
  have oA : ∀ k j X, j ≤ H.length → hg (A k ++ X) j = hg K2 j := fun k j X hj => by
    rw [hg_lt' (by rw [lA, hN]; omega)]
    exact tw.old _ _ _ _ (by omega) (by omega) (by omega) (by omega)
  have oD : ∀ k j X, j ≤ H.length → hg (D k ++ X) j = hg K2 j := fun k j X hj => by
    rw [hg_lt' (by rw [lD, hN]; omega)]
    exact tw.old _ _ _ _ (by omega) (by omega) (by omega) (by omega)
  have oK : ∀ j, j < H.length → hg K2 j = hg H j := fun j hj => by rw [hK2, hg_lt' (by omega), hK1, hg_lt' (by omega), hK0, hg_lt' hj]
  have oC : hg K2 H.length = .own [.i h0, .i t, .i n, .i b] := by rw [hK2, hg_lt' (by omega), hK1, hg_lt' (by omega), hK0, hg_len]; rfl
  have gA : ∀ k j X, j < H.length → hg (A k ++ X) j = hg H j := fun k j X hj => by rw [oA k j X (by omega), oK j hj]
  have gD : ∀ k j X, j < H.length → hg (D k ++ X) j = hg H j := fun k j X hj => by rw [oD k j X (by omega), oK j hj]
  have cA : ∀ k X, hg (A k ++ X) H.length = .own [.i h0, .i t, .i n, .i b] := fun k X => by rw [oA k _ X (Nat.le_refl _), oC]
  have nv1 : ∀ k X, nvw (A k ++ X) (D k ++ X) := fun k X => tw.nvw _ _ _ _ _ _ _ _ X
  have nv2 : ∀ k X, nvw (D k ++ X) (A (k + 1) ++ X) := fun k X => tw.nvw _ _ _ _ _ _ _ _ X
  have pF : ∀ k e eh kk a b' c s op d o lv r X, L[k]? = some e → kk ≤ 8 → askR r → dH e = eh → dQ e = ⟨kk, a, b', c, s, op, d, o, lv⟩ → s_fdoW [.c (.p (H.length + 5) 0 0), .c (.i eh), .g (.i kk :: .u a :: .u b' :: .i c :: .i s :: .i op :: .u d :: .u o :: .b lv :: r)] (A k ++ X) =
      some (.t [.g (anC (dD (z.to (st2 z L k).1 (st2 z L k).2) eh ⟨kk, a, b', c, s, op, d, o, lv⟩) (dG (z.to (st2 z L k).1 (st2 z L k).2) eh ⟨kk, a, b', c, s, op, d, o, lv⟩)), .c (.b (dOk (z.to (st2 z L k).1 (st2 z L k).2) eh ⟨kk, a, b', c, s, op, d, o, lv⟩))], D k ++ X) := fun k e eh kk a b' c s op d o lv r X he hk hr' eH eQ => by
    have kl : k < L.length := by
      rcases Nat.lt_or_ge k L.length with c | c
      · exact c
      · rw [List.getElem?_eq_none c] at he; simp at he
    have f := fI0 k (by omega)
    have q := s_fdoW_eq (f.app X) (h := eh) (k := kk) (a := a) (b := b') (c := c) (s := s) (op := op) (d := d) (o := o) (lv := lv) (r := r) hr' hk
    obtain ⟨e1, e2, e3, _⟩ := Rel.step (rl k (by omega)) eh ⟨kk, a, b', c, s, op, d, o, lv⟩
    obtain ⟨_, e4⟩ := Rel2.step (rl k (by omega)) e
    rw [eH, eQ] at e4
    obtain ⟨e5, e6⟩ := e4 hk
    rw [← st2_step he] at e5 e6
    have ep : (w.to (byS z (st2 z L k)) (st2 z L k).2).p = H.length + 5 := wp
    rw [ep, e1, e2, e3, e5, e6, fwSet_app f, tw.fset _ _ _ _ _ (bys _)] at q
    exact q
  have pS : ∀ k e eh kk a b' c s op d o lv r X, L[k]? = some e → kk ≤ 8 → askR r → dH e = eh → dQ e = ⟨kk, a, b', c, s, op, d, o, lv⟩ → s_sdo14 [.c (.p (H.length + 9) 0 0), .c (.i eh), .g (.i kk :: .u a :: .u b' :: .i c :: .i s :: .i op :: .u d :: .u o :: .b lv :: r)] (D k ++ X) =
      some (.t [.g (anC (dD (z.to (st2 z L k).1 (st2 z L k).2) eh ⟨kk, a, b', c, s, op, d, o, lv⟩) (dG (z.to (st2 z L k).1 (st2 z L k).2) eh ⟨kk, a, b', c, s, op, d, o, lv⟩)), .c (.b (dOk (z.to (st2 z L k).1 (st2 z L k).2) eh ⟨kk, a, b', c, s, op, d, o, lv⟩))], A (k + 1) ++ X) := fun k e eh kk a b' c s op d o lv r X he hk hr' eH eQ => by
    have kl : k < L.length := by
      rcases Nat.lt_or_ge k L.length with c | c
      · exact c
      · rw [List.getElem?_eq_none c] at he; simp at he
    have f := sD0 k (by omega)
    have q := s_sdo14_eq (f.app X) (h := eh) (k := kk) (a := a) (b := b') (c := c) (s := s) (op := op) (d := d) (o := o) (lv := lv) (r := r) hr'
    have e5 : st2 z L (k + 1) = (dM (z.to (st2 z L k).1 (st2 z L k).2) eh ⟨kk, a, b', c, s, op, d, o, lv⟩, dR (z.to (st2 z L k).1 (st2 z L k).2) eh ⟨kk, a, b', c, s, op, d, o, lv⟩) := by
      rw [st2_step he]; unfold stp2; rw [eH, eQ, if_pos hk]
    have e6 : A (k + 1) = twH K2 z w (dM (z.to (st2 z L k).1 (st2 z L k).2) eh ⟨kk, a, b', c, s, op, d, o, lv⟩) (dR (z.to (st2 z L k).1 (st2 z L k).2) eh ⟨kk, a, b', c, s, op, d, o, lv⟩) (byS z (st2 z L (k + 1))) (st2 z L (k + 1)).2 := by
      show twH _ _ _ (st2 z L (k + 1)).1 (st2 z L (k + 1)).2 _ _ = _
      rw [e5]
    rw [shSet_app f, tw.sset, ← e6] at q
    exact q
  have pK : ∀ k e, L[k]? = some e → ¬ (dQ e).k ≤ 8 → A (k + 1) = A k := fun k e he hk => by
    have e5 : st2 z L (k + 1) = st2 z L k := by rw [st2_step he]; unfold stp2; rw [if_neg hk]
    show twH _ _ _ (st2 z L (k + 1)).1 _ _ _ = twH _ _ _ (st2 z L k).1 _ _ _
    rw [e5]
  rw [← A0] at p2
  have rn := rl L.length (Nat.le_refl _)
  have fn := fI0 L.length (Nat.le_refl _)
  have sn := sI0 L.length (Nat.le_refl _)
  obtain ⟨Rn, hRn⟩ : ∃ Rn, Rn = (st2 z L L.length).2 := ⟨_, rfl⟩
  have lRn : Rn.length = 8 := by rw [hRn]; exact rn.l
  have q1 : ∀ X, s_stable [.c (.p (H.length + 9) 0 0)] (A L.length ++ X) = some (.g (tabC Rn)) := fun X => by
    rw [s_stable_eq (sn.app X), hRn]; rfl
  have q2 : ∀ (j : Nat) X, j < 8 → s_fresvW [.c (.p (H.length + 5) 0 0), .c (.i (j : Int))] (A L.length ++ X) = some (.t [.c (.u (Rn.getD j z0).ln), .c (.b (Rn.getD j z0).is)]) := fun j X hj => by
    have q := s_fresvW_eq (fn.app X) (h := (j : Int))
    have ep : (w.to (byS z (st2 z L L.length)) (st2 z L L.length).2).p = H.length + 5 := wp
    have eh : (w.to (byS z (st2 z L L.length)) (st2 z L L.length).2).h = z.h := rn.h
    have er : (w.to (byS z (st2 z L L.length)) (st2 z L L.length).2).R = Rn := hRn.symm
    rw [ep, eh, er, Int.toNat_natCast] at q
    rw [q]
    by_cases c : (j : Int) < z.h
    · rw [if_pos ⟨by omega, c⟩]
    · rw [if_neg (fun h => c h.2)]
      have := rn.o j (by show z.h ≤ (j : Int); omega)
      have this : Rn.getD j z0 = z0 := by rw [hRn]; exact this
      rw [this]; rfl
  have q3 : ∀ (j : Nat) Y, j < 8 → s_tbof [.c (.p N 0 0), .c (.i (j : Int))] (A L.length ++ .own (tabC Rn) :: Y) = some (.t [.c (.u (Rn.getD j z0).ln), .c (.b (Rn.getD j z0).is)]) := fun j Y hj => by
    have g : hg (A L.length ++ .own (tabC Rn) :: Y) N = .own ([] ++ (tabC Rn ++ [])) := by rw [← lA L.length, hg_len, List.nil_append, List.append_nil]; rfl
    have := s_tbof_eq (h := (j : Int)) (tabQ_of g lRn)
    unfold at8 at this
    rw [if_pos (in8_k hj), Int.toNat_natCast] at this
    exact this
  have q4 : ∀ a X, ∃ u v, s_fload [.c (.p (H.length + 5) 0 0), .c (.u a), .c (.i 8)] (A L.length ++ X) = some (.t [.c (.u u), .c (.b v)]) ∧ s_rload10 [.c (.p (H.length + 8) 0 0), .c (.u a), .c (.i 8)] (A L.length ++ X) = some (.t [.c (.u u), .c (.b v)]) := fun a X => by
    have f1 := s_fload_eq (a := a) (n := 8) (fn.app X).R fn.b1 (by decide)
    rw [Rel.ld rn] at f1
    have f2 := s_rload10_eq (a := a) (n := 8) (sn.app X).r ⟨by decide, by decide⟩
    have e1 : (w.to (byS z (st2 z L L.length)) (st2 z L L.length).2).p = H.length + 5 := wp
    have e2 : (z.to (st2 z L L.length).1 (st2 z L L.length).2).ram.id = H.length + 8 := zrid
    rw [e1] at f1
    rw [e2] at f2
    exact ⟨_, _, f1, f2⟩
  have q5 : ∀ X, s_sram [.c (.p (H.length + 9) 0 0)] (A L.length ++ X) = some (.c (.p (H.length + 8) 0 0)) := fun X => by
    rw [s_sram_eq (sn.app X)]
    have e2 : (z.to (st2 z L L.length).1 (st2 z L L.length).2).ram.id = H.length + 8 := zrid
    rw [e2]
  have sq : ∀ X, subH H (A L.length ++ X) := fun X => subH_of_hg (by rw [List.length_append, lA]; omega) fun k hk => gA _ k X hk
  clear_value A D
  obtain ⟨P5, hP5⟩ : ∃ P5, P5 = H.length + 5 := ⟨_, rfl⟩
  obtain ⟨P9, hP9⟩ : ∃ P9, P9 = H.length + 9 := ⟨_, rfl⟩
  obtain ⟨P8, hP8⟩ : ∃ P8, P8 = H.length + 8 := ⟨_, rfl⟩
  rw [← hP5] at p1
  rw [← hP9] at p2
  simp only [← hP5] at pF q2 q4
  simp only [← hP9] at pS q1 q5
  simp only [← hP8] at q4 q5
  have hA0 : ∀ k X, hg (A k ++ X) N = hg X 0 := fun k X => by rw [← lA k, hg_len]
  have hAj : ∀ k X j, hg (A k ++ X) (N + j) = hg X j := fun k X j => by rw [← lA k, hg_len_add]
  have sA0 : ∀ k X o, (A k ++ X).set N o = A k ++ X.set 0 o := fun k X o => by rw [← lA k, set_len]
  have sAj : ∀ k X j o, (A k ++ X).set (N + j) o = A k ++ X.set j o := fun k X j o => by rw [← lA k, set_len_add]
  have hD0 : ∀ k X, hg (D k ++ X) N = hg X 0 := fun k X => by rw [← lD k, hg_len]
  have hDj : ∀ k X j, hg (D k ++ X) (N + j) = hg X j := fun k X j => by rw [← lD k, hg_len_add]
  have sD0 : ∀ k X o, (D k ++ X).set N o = D k ++ X.set 0 o := fun k X o => by rw [← lD k, set_len]
  have sDj : ∀ k X j o, (D k ++ X).set (N + j) o = D k ++ X.set j o := fun k X j o => by rw [← lD k, set_len_add]
  (try simp (config := { maxSteps := 10000000 }) only [go_sem, seval, s_fright14_eq, hr, n20, xl, xs, as_len_y, l60', p1, p2, oC1]; repeat (simp (disch := omega) only [w64_d, ipos, ineg, dpos, dneg]; try simp (config := { maxSteps := 10000000 }) only [go_sem, seval, s_fright14_eq, hr, n20, xl, xs, as_len_y, l60', p1, p2, oC1]))
  refine arun_for L.length (fun k => ([(1, .c x), (2, .c (.p H.length 0 0)), (5, .c (.p P5 0 0)), (7, .c (.p P9 0 0)), (9, .c (.i k))], A k)) ?_ fun k hk => ?_
  · exact wkF (by simp [Am.get])
  by_cases hlt : k < L.length
  rotate_left
  · obtain rfl : k = L.length := by omega
    have kI : ¬ ((L.length : Int) < L.length) := by omega
    have t16 : (tabC Rn).take 16 = tabC Rn := List.take_of_length_le (by rw [tabC_l lRn]; exact Nat.le_refl _)
    have l16 := tabC_l lRn
    have o16 : (tabC Rn).all Sc.one = true := by unfold tabC; rw [List.all_flatMap]; exact List.all_eq_true.2 fun _ _ => rfl
    have q10 := q1 []
    rw [List.append_nil] at q10
    (try simp (config := { maxSteps := 10000000 }) only [go_sem, seval, xl, xs, as_len_y, kI, q1, q10, lA, hA0, hAj, sA0, sAj, t16, l16, o16]; repeat (simp (disch := omega) only [w64_d, ipos, ineg, dpos, dneg]; try simp (config := { maxSteps := 10000000 }) only [go_sem, seval, xl, xs, as_len_y, kI, q1, q10, lA, hA0, hAj, sA0, sAj, t16, l16, o16]))
    refine arun_for 8 (fun j => ([(2, .c (.p H.length 0 0)), (5, .c (.p P5 0 0)), (7, .c (.p P9 0 0)), (14, .c (.p N 0 0)), (15, .c (.i j))], A L.length ++ [.own (tabC Rn)])) ?_ fun j hj => ?_
    · exact wkF (by simp [Am.get])
    by_cases j8 : j < 8
    · have jI : (j : Int) < 8 := by omega
      have F1 : w64 ((j : Int) + 1) = ((j + 1 : Nat) : Int) := by rw [w64_d (by omega) (by omega)]; omega
      have q2 := fun X => q2 j X j8
      have q3 := q3 j [] j8
      obtain ⟨y1, hy1⟩ : ∃ y, y = (Rn.getD j z0).ln := ⟨_, rfl⟩
      obtain ⟨y2, hy2⟩ : ∃ y, y = (Rn.getD j z0).is := ⟨_, rfl⟩
      rw [← hy1, ← hy2] at q2 q3
      cases y2
      all_goals (try simp (config := { maxSteps := 10000000 }) only [go_sem, seval, jI, F1, q2, q3]; repeat (simp (disch := omega) only [w64_d, ipos, ineg, dpos, dneg]; try simp (config := { maxSteps := 10000000 }) only [go_sem, seval, jI, F1, q2, q3]))
      all_goals exact ⟨j + 1, by omega, by omega, wkF (by simp [Am.get])⟩
    obtain rfl : j = 8 := by omega
    (try simp (config := { maxSteps := 10000000 }) only [go_sem, seval]; repeat (simp (disch := omega) only [w64_d, ipos, ineg, dpos, dneg]; try simp (config := { maxSteps := 10000000 }) only [go_sem, seval]))
    obtain ⟨m, rfl⟩ : ∃ m : Nat, n = (m : Int) := ⟨n.toNat, by omega⟩
    have e8 : w64 (8 * (m : Int)) = ((8 * m : Nat) : Int) := by rw [w64_d (by omega) (by omega)]; omega
    refine arun_for (8 * m) (fun i => ([(2, .c (.p H.length 0 0)), (5, .c (.p P5 0 0)), (7, .c (.p P9 0 0)), (20, .c (.i i))], A L.length ++ [.own (tabC Rn)])) ?_ fun i hi => ?_
    · exact wkF (by simp [Am.get])
    by_cases hlt : i < 8 * m
    · have iI : (i : Int) < ((8 * m : Nat) : Int) := by omega
      have F1 : w64 ((i : Int) + 1) = ((i + 1 : Nat) : Int) := by rw [w64_d (by omega) (by omega)]; omega
      obtain ⟨a, ha⟩ : ∃ a, a = 2147483648#64 + BitVec.ofInt 64 (w64 (8 * (i : Int))) := ⟨_, rfl⟩
      obtain ⟨u, v, f1, f2⟩ := q4 a [.own (tabC Rn)]
      (try simp (config := { maxSteps := 10000000 }) only [go_sem, seval, cA, e8, iI, F1, ← ha, f1, f2, q5]; repeat (simp (disch := omega) only [w64_d, ipos, ineg, dpos, dneg]; try simp (config := { maxSteps := 10000000 }) only [go_sem, seval, cA, e8, iI, F1, ← ha, f1, f2, q5]))
      exact ⟨i + 1, by omega, by omega, wkF (by simp [Am.get])⟩
    obtain rfl : i = 8 * m := by omega
    have iI : ¬ (((8 * m : Nat) : Int) < ((8 * m : Nat) : Int)) := by omega
    (try simp (config := { maxSteps := 10000000 }) only [go_sem, seval, cA, e8, iI, s_flive_eq]; repeat (simp (disch := omega) only [w64_d, ipos, ineg, dpos, dneg]; try simp (config := { maxSteps := 10000000 }) only [go_sem, seval, cA, e8, iI, s_flive_eq]))
    exact sq _
  obtain ⟨e, he⟩ : ∃ e, L[k]? = some e := ⟨_, List.getElem?_eq_getElem hlt⟩
  rcases slD_inv dcD_d hL with ⟨rfl, rfl⟩ | ⟨id, v, rfl, hv, hcs⟩
  · simp at hlt
  have lid : id < H.length := by simpa [AV.bel, Sc.bel] using bx
  have kI : (k : Int) < L.length := by omega
  have k0 : (0 : Int) ≤ (k : Int) := by omega
  have F1 : w64 ((k : Int) + 1) = ((k + 1 : Nat) : Int) := by rw [w64_d (by omega) (by omega)]; omega
  obtain ⟨eh, kk, a, b', c, s, op, d, o, lv, r, eE, eR, eH, eQ, _, _⟩ := de_of e
  have gI := fun k X => gA k id X lid
  have gJ := fun k X => gD k id X lid
  have r1 := fm_le encD_l (L := L) (k := k) hlt
  have r2 := row_drop encD_l he 0 (by omega)
  have r3 := row_drop encD_l he 1 (by omega)
  have r4 := fm_cell encD_l he (i := 0) (by decide)
  have r5 := fm_cell encD_l he (i := 1) (by decide)
  rw [eE, Nat.add_zero] at r2 r4
  rw [eE] at r3 r5
  rw [← hcs] at r1 r2 r3 r4 r5
  have hv' := hv.symm
  have lr := eR.1
  have ro := eR.2.2
  have tr : ∀ X, (r ++ X).take 10 = r := fun X => by rw [List.take_append_of_le_length (by omega), List.take_of_length_le (by omega)]
  have rt : r.take 10 = r := List.take_of_length_le (by omega)
  have r6 : k * 20 + 1 + 19 ≤ (hg H id).cells.length := by omega
  have r7 : k * 20 + 1 ≤ (hg H id).cells.length := by omega
  have r8 : k * 20 + 1 + 1 ≤ (hg H id).cells.length := by omega
  have kq : (dQ e).k = kk := by rw [eQ]
  have fin : ∀ n K fr Y, n ≤ H.length → K = A (k + 1) → (∀ p ∈ ([(1, .c (.sl id 0 v L.length)), (2, .c (.p H.length 0 0)), (5, .c (.p P5 0 0)), (7, .c (.p P9 0 0)), (9, .c (.i ((k + 1 : Nat) : Int)))] : Fr), Am.get fr p.1 = p.2) → Wk n fr (K ++ Y) ([(1, .c (.sl id 0 v L.length)), (2, .c (.p H.length 0 0)), (5, .c (.p P5 0 0)), (7, .c (.p P9 0 0)), (9, .c (.i ((k + 1 : Nat) : Int)))], A (k + 1)) := fun n K fr Y hn hK hf => by
    subst hK
    exact Wk.wk (by rw [lA]; omega) hf (by simp [AV.bel, Sc.bel, lA]; omega) (subH_app _ _) (bA _)
  have r20 : 1 ≤ 20 := by decide
  by_cases k8 : 8 < kk
  · have e1 := pK k e he (by rw [kq]; omega)
    have fin := fun fr hf => fin (lo [(1000000, Ent.lo H.length)]) (A k) fr [] (by simp [lo]) e1.symm hf
    simp only [List.append_nil] at fin
    have gI0 := gI k []
    rw [List.append_nil] at gI0
    (try simp (config := { maxSteps := 10000000 }) only [go_sem, seval, xl, xs, as_len_y, kI, k0, F1, gI, gI0, hv', r1, r4, r5, r6, r7, r8, k8, Int.toNat_natCast]; repeat (simp (disch := omega) only [w64_d, ipos, ineg, dpos, dneg]; try simp (config := { maxSteps := 10000000 }) only [go_sem, seval, xl, xs, as_len_y, kI, k0, F1, gI, gI0, hv', r1, r4, r5, r6, r7, r8, k8, Int.toNat_natCast]))
    exact ⟨k + 1, by omega, by omega, fin _ (by simp [Am.get])⟩
  have p3 := fun X => pF k e eh kk a b' c s op d o lv r X he (by omega) eR eH eQ
  have p4 := fun X => pS k e eh kk a b' c s op d o lv r X he (by omega) eR eH eQ
  obtain ⟨Q, hQ⟩ : ∃ Q, Q = anC (dD (z.to (st2 z L k).1 (st2 z L k).2) eh ⟨kk, a, b', c, s, op, d, o, lv⟩) (dG (z.to (st2 z L k).1 (st2 z L k).2) eh ⟨kk, a, b', c, s, op, d, o, lv⟩) := ⟨_, rfl⟩
  have al : Q.length = 42 := by rw [hQ]; exact anC_len _ _
  have a1 : Q.all Sc.one = true := by rw [hQ]; exact anC_one _ _
  have at' : Q.take 42 = Q := by rw [hQ]; exact anC_take _ _
  have ab : abin Tryz.prog .neq 34 (.g Q) (.g Q) = some (.c (.b false)) := by rw [hQ]; exact ab_ans _ _
  rw [← hQ] at p3 p4
  have p30 := p3 []
  rw [List.append_nil] at p30
  have gI0 := gI k []
  rw [List.append_nil] at gI0
  have nv10 := nv1 k []
  have nv20 := nv2 k []
  simp only [List.append_nil] at nv10 nv20
  have gJ0 := gJ k []
  rw [List.append_nil] at gJ0
  have lvI : (hg H id).live = true := by
    cases e : hg H id <;> first | rfl | (rw [e] at r8; simp [AObj.cells] at r8)
  cases ok : dOk (z.to (st2 z L k).1 (st2 z L k).2) eh ⟨kk, a, b', c, s, op, d, o, lv⟩
  all_goals rw [ok] at p3 p4 p30
  all_goals (try simp (config := { maxSteps := 10000000 }) only [go_sem, seval, xl, xs, as_len_y, kI, k0, F1, gI, gI0, gJ, hv', r1, r2, r3, r4, r5, r6, r7, r8, k8, tr, rt, lr, ro, lA, lD, hA0, hAj, sA0, sAj, hD0, hDj, sD0, sDj, p3, p30, p4, al, a1, at', ab, gJ0, lvI, Int.toNat_natCast]; repeat (simp (disch := omega) only [w64_d, ipos, ineg, dpos, dneg]; try simp (config := { maxSteps := 10000000 }) only [go_sem, seval, xl, xs, as_len_y, kI, k0, F1, gI, gI0, gJ, hv', r1, r2, r3, r4, r5, r6, r7, r8, k8, tr, rt, lr, ro, lA, lD, hA0, hAj, sA0, sAj, hD0, hDj, sD0, sDj, p3, p30, p4, al, a1, at', ab, gJ0, lvI, Int.toNat_natCast]))
  all_goals (repeat' (first | apply And.intro | exact nvc14 nv10 (by kernel_rfl) | exact nvc14 (nv1 _ _) (by kernel_rfl) | exact nvc14 nv20 (by kernel_rfl) | exact nvc14 (nv2 _ _) (by kernel_rfl) | (intro _; kernel_rfl) | kernel_rfl))
  all_goals exact ⟨k + 1, by omega, by omega, fin _ _ _ _ (by simp [lo]) rfl (by simp [Am.get])⟩
theorem sig_fshards (avs : List AV) (H : AH) (h : SigA [.fl true [.n .i64, .n .i64, .n .i64, .n .i64], .sl [.n .i64, .n .i64, .n .u64, .n .u64, .n .i64, .n .i64, .n .i64, .n .u64, .n .u64, .q, .n .i64, .q, .q, .q, .n .u64, .n .i64, .n .i64, .n .u64, .n .i64, .n .u64]] avs H) : s_fshards avs H = some (.c (.b true)) := by
  obtain ⟨l, r, rfl, g, h2⟩ := sig_g h
  obtain ⟨s1, t1, rfl, k1, g⟩ := fit_cons g
  obtain ⟨s2, t2, rfl, k2, g⟩ := fit_cons g
  obtain ⟨s3, t3, rfl, k3, g⟩ := fit_cons g
  obtain ⟨s4, t4, rfl, k4, g⟩ := fit_cons g
  obtain rfl := fit_nil g
  obtain ⟨a, rfl, _⟩ := fk_i k1
  obtain ⟨b, rfl, _⟩ := fk_i k2
  obtain ⟨c, rfl, _⟩ := fk_i k3
  obtain ⟨d, rfl, _⟩ := fk_i k4
  obtain ⟨x, r, rfl, h3, L, hL, -, hl⟩ := sig_row (f := encD) (w := 20) (dc := dcD) (p := fun _ => True) (fun cs hcs => ⟨⟨cs, hcs⟩, rfl, trivial⟩) encD_l dcD_e h2
  obtain rfl := sig_nil h3
  simp only [s_fshards, hL, hl, if_true]
end
end
end Go.Proofs.YtcbhelkafelofaaGreat
