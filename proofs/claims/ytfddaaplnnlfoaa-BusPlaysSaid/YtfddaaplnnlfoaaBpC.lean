/- Layer 18: the document: contracts. -/
import Derived.Test.YtfddaaplnnlfoaaBpB
import Derived.Test.YtfddaaplnnlfoaaU19
import Derived.Test.YtfddaaplnnlfoaaU21
namespace Go.Proofs.Ytfddaaplnnlfoaa
open Go.Am
set_option linter.unusedSimpArgs false
set_option linter.unusedVariables false
noncomputable section

/-! ## XBp7 -/
section
variable {H : AH}

structure BsI (b : Bs) : Prop where
  ok : BsOk b
  kI : PkI b.k
theorem BsI.cI {b : Bs} (h : BsI b) : CkI b.c := ⟨h.ok.c, by rw [h.ok.nc]; exact h.ok.n0⟩
/-- the document's bus, as cells -/
def rbB (b : Bs) (t : Pt) (u v : Sc) : List Sc := .i b.n :: (ckC b.c ++ (rpk b.k ++ rpC t u v))
structure Seg (A B C : List Sc) : Prop where
  la : A.length = 18
  lb : B.length = 657
  lc : C.length = 11
  l : (A ++ (B ++ C)).length = 686
  t : List.take 686 (A ++ (B ++ C)) = A ++ (B ++ C)
  d : List.drop 686 (A ++ (B ++ C)) = []
  t18 : ∀ m, List.take 18 (A ++ m) = A
  d18 : ∀ m, List.drop 18 (A ++ m) = m
  t657 : List.take 657 (B ++ C) = B
  d657 : List.drop 657 (B ++ C) = C
  d675 : List.drop 675 (A ++ (B ++ C)) = C
  t675 : List.take 675 (A ++ (B ++ C)) = A ++ B
  tc : List.take 11 C = C
theorem seg {A B C : List Sc} (la : A.length = 18) (lb : B.length = 657) (lc : C.length = 11) : Seg A B C := by
  have l : (A ++ (B ++ C)).length = 686 := by simp only [List.length_append, la, lb, lc]
  have ab : (A ++ B).length = 675 := by simp only [List.length_append, la, lb]
  exact ⟨la, lb, lc, l, List.take_of_length_le (by omega), List.drop_of_length_le (by omega), fun m => List.take_left' la, fun m => List.drop_left' la, List.take_left' lb, List.drop_left' lb,
    by rw [← List.append_assoc]; exact List.drop_left' ab, by rw [← List.append_assoc]; exact List.take_left' ab, List.take_of_length_le (by omega)⟩
theorem rpC_l (t : Pt) (u v : Sc) : (rpC t u v).length = 11 := rfl
theorem rpC_one (t : Pt) {u v : Sc} (hu : Sc.one u = true) (hv : Sc.one v = true) : (rpC t u v).all Sc.one = true := by
  unfold rpC
  simp only [List.all_cons, List.all_nil, hu, hv]; rfl
theorem BsI.seg {b : Bs} (h : BsI b) (t : Pt) (u v : Sc) : Seg (ckC b.c) (rpk b.k) (rpC t u v) := Go.Proofs.Ytfddaaplnnlfoaa.seg (ckC_l h.ok.c) (rpk_l h.ok.k) rfl
theorem rb_one {c : Ck} {k : Pk} {t : Pt} {u v : Sc} (hu : Sc.one u = true) (hv : Sc.one v = true) : (ckC c ++ (rpk k ++ rpC t u v)).all Sc.one = true := by
  rw [List.all_append, List.all_append, ckC_one, rpk_one, rpC_one t hu hv]; rfl
theorem rb_bel {c : Ck} {k : Pk} {t : Pt} {u v : Sc} {n : Nat} (hu : u.bel n = true) (hv : v.bel n = true) : (ckC c ++ (rpk k ++ rpC t u v)).all (Sc.bel n) = true := by
  rw [List.all_append, List.all_append, ckC_bel, rpk_bel]
  unfold rpC
  simp only [List.all_cons, List.all_nil, hu, hv]; rfl
theorem rbB_inj {a b : Bs} {s t : Pt} {u v x y : Sc} (ha : BsI a) (hb : BsI b) (h : rbB a s u v = rbB b t x y) : a = b ∧ rpC s u v = rpC t x y := by
  simp only [rbB, List.cons.injEq, Sc.i.injEq] at h
  obtain ⟨h1, h2⟩ := h
  obtain ⟨h3, h4⟩ := List.append_inj h2 (by rw [ckC_l ha.ok.c, ckC_l hb.ok.c])
  obtain ⟨h5, h6⟩ := List.append_inj h4 (by rw [rpk_l ha.ok.k, rpk_l hb.ok.k])
  have g3 := ckC_inj ha.ok.c hb.ok.c h3
  have g5 := rpk_inj ha.ok.k hb.ok.k h5
  refine ⟨?_, h6⟩
  cases a; cases b
  simp only at h1 g3 g5
  subst h1 g3 g5
  rfl
theorem rpC_inj {s t : Pt} {u v x y : Sc} (hs : RpOk H s u v) (ht : RpOk H t x y) (h : rpC s u v = rpC t x y) : s = t ∧ u = x ∧ v = y := by
  simp only [rpC, List.cons.injEq, Sc.i.injEq, Sc.b.injEq, and_true] at h
  obtain ⟨e1, e2, e3, e4, e5, e6, e7, e8, e9, e10, e11⟩ := h
  subst e10 e11
  have a := hs.hx
  rw [ht.hx] at a
  have b := hs.hy
  rw [ht.hy] at b
  have a2 := Option.some.inj a
  have b2 := Option.some.inj b
  clear a b hs ht
  refine ⟨?_, rfl, rfl⟩
  cases s; cases t
  simp only at e1 e2 e3 e4 e5 e6 e7 e8 e9 a2 b2
  subst e1 e2 e3 e4 e5 e6 e7 e8 e9 a2 b2
  rfl
theorem ckL_val (c : Ck) (h : Int) : ckL c h = 0#64 ∨ ckL c h = 8#64 ∨ ckL c h = 128#64 ∨ ckL c h = 136#64 := by
  unfold ckL
  split
  · exact .inl rfl
  · split <;> split <;> simp
def q_r18l (args : List AV) (H : AH) (x : AV) : Prop := ∀ b t u v h, BsI b → Sc.one u = true → Sc.one v = true → args = [.g (rbB b t u v), .c (.i h)] → x = .c (.u (bLn b h))
def s_r18l : List AV → AH → Option AV := frQ Try.prog [(81, .fq s_r15l), (82, .fq s_r16l)] 51 q_r18l
set_option maxRecDepth 100000 in
set_option maxHeartbeats 2000000 in
theorem ok_r18l : FpOk Try.prog 51 (fun args H => (s_r18l args H).map fun v => (v, H)) := frQ_ok hmix (TabOk.cons (e := .fq s_r15l) ok_r15l (TabOk.cons (e := .fq s_r16l) ok_r16l TabOk.nil)) Try.func51 rfl Try.results51 Try.ntmps51 (by kernel_rfl) (by kernel_rfl)
theorem s_r18l_eq {b : Bs} (hb : BsI b) (t : Pt) {u v : Sc} (hu : Sc.one u = true) (hv : Sc.one v = true) (h : Int) : s_r18l [.g (rbB b t u v), .c (.i h)] H = some (.c (.u (bLn b h))) := by
  have : ∃ x, s_r18l [.g (rbB b t u v), .c (.i h)] H = some x ∧ q_r18l [.g (rbB b t u v), .c (.i h)] H x := by
    unfold s_r18l
    apply frQ_ex (v := .c (.u (bLn b h))) Try.func51 rfl Try.results51 Try.ntmps51 (by simp only [List.length_cons, List.length_nil]; decide)
    · exact fun _ _ => rfl
    · intro _ _
      have sg := hb.seg t u v
      have la := sg.la
      have lb := sg.lb
      have lc := sg.lc
      have l := sg.l
      have t18 := sg.t18
      have d18 := sg.d18
      have t657 := sg.t657
      have oo := rb_one (c := b.c) (k := b.k) (t := t) hu hv
      have n8 := hb.ok.n1
      have cl := fun H => s_r15l_eq (H := H) hb.cI h
      have p1 := fun H => s_r16l_eq (H := H) hb.kI (2 * h)
      have p2 := fun H => s_r16l_eq (H := H) hb.kI (2 * h + 1)
      by_cases h0 : h < 0
      · have e : bLn b h = 0#64 := if_pos (.inl h0)
        rw [e]
        (try simp (config := { maxSteps := 10000000 }) only [go_sem, seval, rbB, l, oo, h0]; repeat (simp (disch := omega) only [w64_d, ipos, ineg, dpos, dneg]; try simp (config := { maxSteps := 10000000 }) only [go_sem, seval, rbB, l, oo, h0]))
        exact subH_app _ _
      by_cases h1 : b.n ≤ h
      · have e : bLn b h = 0#64 := if_pos (.inr h1)
        rw [e]
        (try simp (config := { maxSteps := 10000000 }) only [go_sem, seval, rbB, l, oo, h0, h1]; repeat (simp (disch := omega) only [w64_d, ipos, ineg, dpos, dneg]; try simp (config := { maxSteps := 10000000 }) only [go_sem, seval, rbB, l, oo, h0, h1]))
        exact subH_app _ _
      have e1 : w64 (2 * h) = 2 * h := w64_d (by omega) (by omega)
      have e2 : w64 (2 * h + 1) = 2 * h + 1 := w64_d (by omega) (by omega)
      have e : bLn b h = (if plLine b.k (2 * h + 1) = true then (if plLine b.k (2 * h) = true then ckL b.c h ||| 2048#64 else ckL b.c h) ||| 512#64 else (if plLine b.k (2 * h) = true then ckL b.c h ||| 2048#64 else ckL b.c h)) := if_neg (by omega)
      rw [e]
      have cv := ckL_val b.c h
      generalize ckL b.c h = z at *
      cases h2 : plLine b.k (2 * h)
      all_goals simp only [h2] at p1
      all_goals cases h3 : plLine b.k (2 * h + 1)
      all_goals simp only [h3] at p2
      all_goals rcases cv with rfl | rfl | rfl | rfl
      all_goals (try simp (config := { maxSteps := 10000000 }) only [go_sem, seval, rbB, l, la, lb, t18, d18, t657, oo, h0, h1, e1, e2, cl, p1, p2, Bool.false_eq_true, if_true, if_false]; repeat (simp (disch := omega) only [w64_d, ipos, ineg, dpos, dneg]; try simp (config := { maxSteps := 10000000 }) only [go_sem, seval, rbB, l, la, lb, t18, d18, t657, oo, h0, h1, e1, e2, cl, p1, p2, Bool.false_eq_true, if_true, if_false]))
      all_goals exact subH_app _ _
    · intro b' t' u' v' h' hb' _ _ he
      simp only [List.cons.injEq, AV.g.injEq, AV.c.injEq, Sc.i.injEq, and_true] at he
      obtain ⟨e1, rfl⟩ := he
      obtain ⟨rfl, _⟩ := rbB_inj hb hb' e1
      rfl
  obtain ⟨x, h1, h2⟩ := this
  rw [h1, h2 b t u v h hb hu hv rfl]
end

/-! ## XBp8 -/
section
variable {H : AH}

def q_r18m (args : List AV) (H : AH) (x : AV) : Prop := ∀ b t u v q, BsI b → Sc.one u = true → Sc.one v = true → args = [.g (rbB b t u v), .g (aqC q)] → x = .c (.b (bMy b.n q))
def s_r18m : List AV → AH → Option AV := frQ Try.prog [(18, .pu s_rwhere)] 19 q_r18m
set_option maxRecDepth 100000 in
set_option maxHeartbeats 2000000 in
theorem ok_r18m : FpOk Try.prog 19 (fun args H => (s_r18m args H).map fun v => (v, H)) := frQ_ok hmix (TabOk.cons (e := .pu s_rwhere) ok_rwhere TabOk.nil) Try.func19 rfl Try.results19 Try.ntmps19 (by kernel_rfl) (by kernel_rfl)
theorem s_r18m_eq {b : Bs} (hb : BsI b) (t : Pt) {u v : Sc} (hu : Sc.one u = true) (hv : Sc.one v = true) {q : Aq} (hq : askR q.r) : s_r18m [.g (rbB b t u v), .g (aqC q)] H = some (.c (.b (bMy b.n q))) := by
  have : ∃ x, s_r18m [.g (rbB b t u v), .g (aqC q)] H = some x ∧ q_r18m [.g (rbB b t u v), .g (aqC q)] H x := by
    unfold s_r18m
    apply frQ_ex (v := .c (.b (bMy b.n q))) Try.func19 rfl Try.results19 Try.ntmps19 (by simp only [List.length_cons, List.length_nil]; decide)
    · exact fun _ _ => rfl
    · intro _ _
      have hm1 := (hb.seg t u v).l
      have hm3 := rb_one (c := b.c) (k := b.k) (t := t) hu hv
      obtain ⟨hr1, _, hr3⟩ := hq
      have rw' := s_rwhere_eq (n := b.n) (a := q.a) (s := q.s)
      unfold bMy rbB
      have bd := bSp_d (n := b.n) (a := q.a) (s := q.s)
      generalize (bSp b.n q.a q.s).d = z at *
      rcases Classical.propComplete (q.k = 9) with k1 | k1
      · rcases bd with rfl | rfl | rfl | rfl <;> (try simp (config := { maxSteps := 10000000 }) only [go_sem, seval, aqC, rw', k1, hm1, hm3, hr1, hr3]; repeat (simp (disch := omega) only [w64_d, ipos, ineg, dpos, dneg]; try simp (config := { maxSteps := 10000000 }) only [go_sem, seval, aqC, rw', k1, hm1, hm3, hr1, hr3])) <;> exact subH_app _ _
      rcases Classical.propComplete (q.k = 10) with k2 | k2
      · rcases bd with rfl | rfl | rfl | rfl <;> (try simp (config := { maxSteps := 10000000 }) only [go_sem, seval, aqC, rw', k1, k2, hm1, hm3, hr1, hr3]; repeat (simp (disch := omega) only [w64_d, ipos, ineg, dpos, dneg]; try simp (config := { maxSteps := 10000000 }) only [go_sem, seval, aqC, rw', k1, k2, hm1, hm3, hr1, hr3])) <;> exact subH_app _ _
      rcases Classical.propComplete (q.k = 11) with k3 | k3
      · (try simp (config := { maxSteps := 10000000 }) only [go_sem, seval, aqC, k1, k2, k3, hm1, hm3, hr1, hr3]; repeat (simp (disch := omega) only [w64_d, ipos, ineg, dpos, dneg]; try simp (config := { maxSteps := 10000000 }) only [go_sem, seval, aqC, k1, k2, k3, hm1, hm3, hr1, hr3]))
        exact subH_app _ _
      rcases Classical.propComplete (q.k = 18) with k4 | k4
      · (try simp (config := { maxSteps := 10000000 }) only [go_sem, seval, aqC, k1, k2, k3, k4, hm1, hm3, hr1, hr3]; repeat (simp (disch := omega) only [w64_d, ipos, ineg, dpos, dneg]; try simp (config := { maxSteps := 10000000 }) only [go_sem, seval, aqC, k1, k2, k3, k4, hm1, hm3, hr1, hr3]))
        exact subH_app _ _
      rcases Classical.propComplete (q.k = 19) with k5 | k5
      · (try simp (config := { maxSteps := 10000000 }) only [go_sem, seval, aqC, k1, k2, k3, k4, k5, hm1, hm3, hr1, hr3]; repeat (simp (disch := omega) only [w64_d, ipos, ineg, dpos, dneg]; try simp (config := { maxSteps := 10000000 }) only [go_sem, seval, aqC, k1, k2, k3, k4, k5, hm1, hm3, hr1, hr3]))
        exact subH_app _ _
      rcases Classical.propComplete (q.k = 20) with k6 | k6
      all_goals (try simp (config := { maxSteps := 10000000 }) only [go_sem, seval, aqC, k1, k2, k3, k4, k5, k6, hm1, hm3, hr1, hr3]; repeat (simp (disch := omega) only [w64_d, ipos, ineg, dpos, dneg]; try simp (config := { maxSteps := 10000000 }) only [go_sem, seval, aqC, k1, k2, k3, k4, k5, k6, hm1, hm3, hr1, hr3]))
      all_goals exact subH_app _ _
    · intro b' t' u' v' q' hb' _ _ he
      simp only [List.cons.injEq, AV.g.injEq, and_true] at he
      obtain ⟨e1, e2⟩ := he
      obtain ⟨rfl, _⟩ := rbB_inj hb hb' e1
      obtain rfl := aqC_inj e2
      rfl
  obtain ⟨x, h1, h2⟩ := this
  rw [h1, h2 b t u v q hb hu hv rfl]
/-! ### what stays -/
structure RStep (H H1 : AH) (u v u' v' : Sc) (t : Pt) : Prop where
  ex : ∃ X, H1 = H ++ X
  rp : RpOk H1 t u' v'
  bu : u'.bel H1.length = true
  bv : v'.bel H1.length = true
  nu : newS H u u'
  nv : newS H v v'
  nw : nvw H H1
/-- a row among objects that change -/
theorem slD_loc {H P Q X Y : AH} {x : Sc} {A : List Int} (h : slD 1 dc8 (H ++ (P ++ X)) x = some A) (hb : x.bel (H ++ (P ++ X)).length = true) (hn : ∀ i, sid x = some i → i < H.length ∨ H.length + P.length ≤ i) (hl : P.length = Q.length) :
    slD 1 dc8 (H ++ (Q ++ (X ++ Y))) x = some A := by
  refine slD_kp h fun i hi => ?_
  have li := sid_lt h hb hi
  simp only [List.length_append] at li
  rcases hn i hi with h1 | h1
  · rw [hg_app h1, hg_app h1]
  · obtain ⟨j, rfl⟩ : ∃ j, i = H.length + (P.length + j) := ⟨i - H.length - P.length, by omega⟩
    rw [hg_len_add, hg_len_add]
    conv => lhs; rw [hl]
    rw [hg_len_add, hg_len_add, hg_app (by omega)]
theorem newR_loc {H P : AH} {x x' : Sc} {A : List Int} (hx : slD 1 dc8 H x = some A) (hb : x.bel H.length = true) (h : newR (H ++ P) x x') : (∀ i, sid x' = some i → i < H.length ∨ H.length + P.length ≤ i) ∧ newS H x x' := by
  refine ⟨fun i hi => ?_, newS_of h (by simp)⟩
  rcases h with rfl | rfl | ⟨j, v, n, rfl, hj⟩
  · exact .inl (sid_lt hx hb hi)
  · simp [sid] at hi
  · simp only [sid, Option.some.injEq] at hi
    subst hi
    right; simpa using hj
theorem nvw_own {A X : AH} (h : nvw A (A ++ X)) : (X.all fun o => o.live = false || o.owned) = true := by
  rw [List.all_eq_true]
  intro o ho
  obtain ⟨j, hj⟩ := List.mem_iff_getElem?.1 ho
  have e : hg (A ++ X) (A.length + j) = o := by rw [hg_len_add, hg, List.getD_eq_getElem?_getD, hj]; rfl
  have := h (A.length + j)
  rw [e] at this
  have e2 : hg A (A.length + j) = .dead := by rw [hg, List.getD_eq_getElem?_getD, List.getElem?_eq_none (by omega)]; rfl
  rw [e2] at this
  cases hl : o.live
  · simp
  · cases hw : o.owned
    · have := this hl hw
      rw [← this] at hl
      simp [AObj.live] at hl
    · simp
theorem nvw_loc {H X Y : AH} {o1 o2 o3 o4 o5 : AObj} (hX : (X.all fun o => o.live = false || o.owned) = true) (h5 : ([o1, o2, o3, o4, o5].all fun o => o.live = false || o.owned) = true) (hY : (Y.all fun o => o.live = false || o.owned) = true) : nvw H (H ++ (o1 :: o2 :: o3 :: o4 :: o5 :: (X ++ Y))) := by
  refine nvw_h ?_
  rw [show (o1 :: o2 :: o3 :: o4 :: o5 :: (X ++ Y)) = [o1, o2, o3, o4, o5] ++ (X ++ Y) from rfl, List.all_append, List.all_append, h5, hX, hY]; rfl
theorem newS_refl {H : AH} {u : Sc} : newS H u u := fun _ h => .inl h
/-- the forms of what an address tells -/
theorem bSp_form (n : Int) (a : BitVec 64) (s : Int) : bSp n a s = ⟨0, 0#64, 0⟩ ∨ bSp n a s = ⟨1, a - 33554432#64, s⟩ ∨ bSp n a s = ⟨2, a - 201326592#64, s⟩ ∨ bSp n a s = ⟨3, a - 268435456#64, s⟩ := by
  unfold bSp
  repeat' split
  all_goals simp
def q_rdo (args : List AV) (H : AH) (x : AV) (H1 : AH) : Prop := ∀ b t u v h q, BsI b → RpOk H t u v → args = [.g (rbB b t u v), .c (.i h), .g (aqC q)] →
  ∃ u' v', x = .t [.g (rbB (bDb (⟨b, t⟩ : Bx).d h q) (bDt (⟨b, t⟩ : Bx).d h q) u' v'), .g (anC (bDv (⟨b, t⟩ : Bx).d h q) false), .c (.b (bOk b.n h q))] ∧ RStep H H1 u v u' v' (bDt (⟨b, t⟩ : Bx).d h q)
theorem rdo_post {b : Bs} {t : Pt} {u v u' v' : Sc} {h : Int} {q : Aq} {x : AV} {H1 : AH} (hb : BsI b) (ok : RpOk H t u v)
    (h1 : x = .t [.g (rbB (bDb (⟨b, t⟩ : Bx).d h q) (bDt (⟨b, t⟩ : Bx).d h q) u' v'), .g (anC (bDv (⟨b, t⟩ : Bx).d h q) false), .c (.b (bOk b.n h q))]) (h2 : RStep H H1 u v u' v' (bDt (⟨b, t⟩ : Bx).d h q)) :
    q_rdo [.g (rbB b t u v), .c (.i h), .g (aqC q)] H x H1 := by
  intro b2 t2 u2 v2 h' q2 hb2 ok2 he
  simp only [List.cons.injEq, AV.g.injEq, AV.c.injEq, Sc.i.injEq, and_true] at he
  obtain ⟨e1, rfl, e2⟩ := he
  obtain ⟨rfl, e3⟩ := rbB_inj hb hb2 e1
  obtain ⟨rfl, rfl, rfl⟩ := rpC_inj ok ok2 e3
  obtain rfl := aqC_inj e2
  exact ⟨u', v', h1, h2⟩
/-! calls beside which objects are made -/
def s_r16xF (args : List AV) (H : AH) : Option (AV × AH) := (s_r16x args H).map fun v => (v, H)
theorem ok_r16xF : FpOk Try.prog 54 s_r16xF := ok_r16x
theorem s_r16xF_eq {k : Pk} (hk : PkI k) (s : Int) (on : Bool) : s_r16xF [.g (rpk k), .c (.i s), .c (.b on)] H = some (.t [.g (rpk (plWire k s on)), .c (.b (plWis k s))], H) := by
  unfold s_r16xF
  rw [s_r16x_eq hk]; rfl
def s_rcauseF (args : List AV) (H : AH) : Option (AV × AH) := (s_rcause args H).map fun v => (v, H)
theorem ok_rcauseF : FpOk Try.prog 55 s_rcauseF := ok_rcause
theorem s_rcauseF_eq {t : Pt} {x y : Sc} (h : RpOk H t x y) : s_rcauseF [.g (rpC t x y)] H = some (.c (.i (causeP t)), H) := by
  unfold s_rcauseF
  rw [s_rcause_eq h]; rfl
def s_rdo18 : List AV → AH → Option (AV × AH) := frS Try.prog [(19, .fq s_r18m), (18, .pu s_rwhere), (45, .fq s_r15r), (46, .fq s_r16r), (47, .fp s_rread), (48, .fq s_r15w), (49, .fq s_r16v), (50, .fp s_rwrite), (51, .fq s_r18l), (52, .fq s_r15t), (53, .fp s_rinput), (54, .fp s_r16xF), (55, .fp s_rcauseF)] 21 q_rdo
set_option maxRecDepth 100000 in
set_option maxHeartbeats 2000000 in
theorem ok_rdo18 : FpOk Try.prog 21 s_rdo18 := frS_ok hmix (TabOk.cons (e := .fq s_r18m) ok_r18m (TabOk.cons (e := .pu s_rwhere) ok_rwhere (TabOk.cons (e := .fq s_r15r) ok_r15r (TabOk.cons (e := .fq s_r16r) ok_r16r (TabOk.cons (e := .fp s_rread) ok_rread (TabOk.cons (e := .fq s_r15w) ok_r15w (TabOk.cons (e := .fq s_r16v) ok_r16v (TabOk.cons (e := .fp s_rwrite) ok_rwrite (TabOk.cons (e := .fq s_r18l) ok_r18l (TabOk.cons (e := .fq s_r15t) ok_r15t (TabOk.cons (e := .fp s_rinput) ok_rinput (TabOk.cons (e := .fp s_r16xF) ok_r16xF (TabOk.cons (e := .fp s_rcauseF) ok_rcauseF TabOk.nil))))))))))))) Try.func21 rfl Try.results21 Try.ntmps21 (by kernel_rfl) (by kernel_rfl)
theorem toBy_m (d : BitVec 64) : (d % 256#64).toInt = toBy d := by
  unfold toBy
  have h : ∀ x : Int, IntKind.u8.wrap x = x % 256 := fun x => by simp [IntKind.wrap, IntKind.bits, IntKind.signed]
  rw [h, BitVec.toInt_eq_toNat_cond, BitVec.toNat_umod, show (256#64).toNat = 256 from rfl, if_pos (by omega)]
  omega
theorem toBy_8 (d : BitVec 64) : by8 (toBy d) := by
  unfold toBy
  have h : ∀ x : Int, IntKind.u8.wrap x = x % 256 := fun x => by simp [IntKind.wrap, IntKind.bits, IntKind.signed]
  rw [h]
  constructor <;> omega
end

/-! ## XBp9 -/
section
variable {H : AH}

set_option maxHeartbeats 4000000 in
theorem s_rdo_ex {b : Bs} {t : Pt} {u v : Sc} (hb : BsI b) (ok : RpOk H t u v) (bu : u.bel H.length = true) (bv : v.bel H.length = true) (la' : t.A.length < 1000000) (lb' : t.B.length < 1000000) (h : Int) {q : Aq} (hq : askR q.r) :
    ∃ u' v' H1, s_rdo18 [.g (rbB b t u v), .c (.i h), .g (aqC q)] H = some (.t [.g (rbB (bDb (⟨b, t⟩ : Bx).d h q) (bDt (⟨b, t⟩ : Bx).d h q) u' v'), .g (anC (bDv (⟨b, t⟩ : Bx).d h q) false), .c (.b (bOk b.n h q))], H1) ∧ RStep H H1 u v u' v' (bDt (⟨b, t⟩ : Bx).d h q) := by
  have : ∃ x H1, s_rdo18 [.g (rbB b t u v), .c (.i h), .g (aqC q)] H = some (x, H1) ∧ H.length ≤ H1.length ∧ q_rdo [.g (rbB b t u v), .c (.i h), .g (aqC q)] H x H1 := by
    have hu := sl_one ok.hx
    have hv := sl_one ok.hy
    have lr := hq.1
    have ro := hq.2.2
    have rt : q.r.take 10 = q.r := List.take_of_length_le (by omega)
    have my := fun H => s_r18m_eq (H := H) hb t hu hv hq
    have sg := hb.seg t u v
    have la := sg.la
    have lb := sg.lb
    have lc := sg.lc
    have l := sg.l
    have tt := sg.t
    have t18 := sg.t18
    have d18 := sg.d18
    have t657 := sg.t657
    have d657 := sg.d657
    have d675 := sg.d675
    have t675 := sg.t675
    have tc := sg.tc
    have dd := sg.d
    have oo := rb_one (c := b.c) (k := b.k) (t := t) hu hv
    have lb0 : rb0.length = 686 := by unfold rb0; rw [List.length_append, List.length_cons, List.length_append, rp0_l]; rfl
    have db0 : List.drop 686 rb0 = [] := List.drop_of_length_le (by omega)
    have okP : ∀ Y, RpOk (H ++ Y) t u v := fun Y => rp_app ok bu bv
    have wh := s_rwhere_eq (n := b.n) (a := q.a) (s := q.s)
    have Dn : (⟨b, t⟩ : Bx).d.b = b := rfl
    have Dt : (⟨b, t⟩ : Bx).d.t = t := rfl
    have st0 : ∀ Y : AH, (Y.all fun o => o.live = false || o.owned) = true → RStep H (H ++ Y) u v u v t := fun Y hY => ⟨⟨_, rfl⟩, okP _, Sc.bel_mono bu (by simp), Sc.bel_mono bv (by simp), newS_refl, newS_refl, nvw_h hY⟩
    cases hm : bMy b.n q
    · have eo : bOk b.n h q = false := by simp [bOk, hm]
      have ev : bDv (⟨b, t⟩ : Bx).d h q = 0#64 := by simp [bDv, Dn, eo]
      have eb : bDb (⟨b, t⟩ : Bx).d h q = b := by simp [bDb, Dn, eo]
      have et : bDt (⟨b, t⟩ : Bx).d h q = t := by simp [bDt, Dn, Dt, eo]
      unfold s_rdo18
      apply frS_ex (v := .t [.g (rbB b t u v), .g (anC 0#64 false), .c (.b false)]) Try.func21 rfl Try.results21 Try.ntmps21 (by simp only [List.length_cons, List.length_nil]; decide)
      · intro _ _
        simp only [hm, rbB, aqC] at my
        (try simp (config := { maxSteps := 10000000 }) only [go_sem, seval, aqC, rbB, anC, lr, ro, rt, l, tt, oo, lb0, db0, my]; repeat (simp (disch := omega) only [w64_d, ipos, ineg, dpos, dneg]; try simp (config := { maxSteps := 10000000 }) only [go_sem, seval, aqC, rbB, anC, lr, ro, rt, l, tt, oo, lb0, db0, my]))
        exact fin_same
      · simp
      · exact rdo_post (u' := u) (v' := v) hb ok (by rw [ev, eo, eb, et]) (by rw [et]; exact st0 _ rfl)
    simp only [hm] at my
    have kk : q.k = 9 ∨ q.k = 10 ∨ q.k = 11 ∨ q.k = 18 ∨ q.k = 19 ∨ q.k = 20 := by
      unfold bMy at hm
      split at hm
      · omega
      · simp at hm; omega
    have nz : (q.k = 9 ∨ q.k = 10) → ¬ (bSp b.n q.a q.s).d = 0 := fun hk hz => by
      unfold bMy at hm
      rw [if_pos hk, hz] at hm
      simp at hm
    rcases kk with k | k | k | k | k | k
    · have nz := nz (.inl k)
      have wd := wh
      rcases bSp_form b.n q.a q.s with hs | hs | hs | hs
      · rw [hs] at nz; exact absurd rfl nz
      · rw [hs] at wd
        have rd := fun H => s_r15r_eq (H := H) hb.cI (q.a - 33554432#64) q.s
        have eo : bOk b.n h q = true := by simp [bOk, hm, k]
        have ev : bDv (⟨b, t⟩ : Bx).d h q = ckR b.c (ckAt b.c.n (q.a - 33554432#64) q.s) q.s := by simp [bDv, bRv, Dn, Dt, eo, k, hs]
        have et : bDt (⟨b, t⟩ : Bx).d h q = t := by simp [bDt, bMt, bRt, bWt, Dn, Dt, eo, k, hs]
        have eb : bDb (⟨b, t⟩ : Bx).d h q = ⟨b.n, b.c, plWire (b.k) 10 (!decide (causeP (t) = 1))⟩ := by simp [bDb, bEn, bMb, bMt, bRb, bRt, bWb, bWt, Dn, Dt, eo, k, hs]
        have kI1 : PkI (b.k) := hb.kI
        have okc : CkOk (b.c) := hb.ok.c
        have kI2 := kI1.wire 10 (!decide (causeP (t) = 1))
        have wi := fun H => s_r16xF_eq (H := H) kI1 10 (!decide (causeP (t) = 1))
        have ca := fun Y => s_rcauseF_eq (okP Y)
        have hu1 := hu
        have hv1 := hv
        generalize hon : (!decide (causeP t = 1)) = on at *
        obtain ⟨k2, hk2⟩ : ∃ k2, plWire b.k 10 on = k2 := ⟨_, rfl⟩
        simp only [hk2] at wi
        rw [hk2] at eb kI2
        have sg1 := Go.Proofs.Ytfddaaplnnlfoaa.seg (ckC_l okc) (rpk_l kI1.ok) (rpC_l t u v)
        have sg2 := Go.Proofs.Ytfddaaplnnlfoaa.seg (ckC_l okc) (rpk_l kI2.ok) (rpC_l t u v)
        have la1 := sg1.la
        have lb1 := sg1.lb
        have lc1 := sg1.lc
        have l1 := sg1.l
        have tt1 := sg1.t
        have dd1 := sg1.d
        have t181 := sg1.t18
        have d181 := sg1.d18
        have t6571 := sg1.t657
        have d6571 := sg1.d657
        have d6751 := sg1.d675
        have t6751 := sg1.t675
        have tc1 := sg1.tc
        have la2 := sg2.la
        have lb2 := sg2.lb
        have lc2 := sg2.lc
        have l2 := sg2.l
        have tt2 := sg2.t
        have dd2 := sg2.d
        have t182 := sg2.t18
        have d182 := sg2.d18
        have t6572 := sg2.t657
        have d6572 := sg2.d657
        have d6752 := sg2.d675
        have t6752 := sg2.t675
        have tc2 := sg2.tc
        have oo1 := rb_one (c := b.c) (k := b.k) (t := t) hu1 hv1
        have oo2 := rb_one (c := b.c) (k := k2) (t := t) hu1 hv1
        have lo := fun k => rpk_one k
        have lco := fun c => ckC_one c
        have lro := rpC_one t hu1 hv1
        have tk1 : List.take 657 (rpk b.k) = rpk b.k := List.take_of_length_le (by omega)
        have tk2 : List.take 657 (rpk k2) = rpk k2 := List.take_of_length_le (by omega)
        have tc1c : List.take 18 (ckC b.c) = ckC b.c := List.take_of_length_le (by omega)
        unfold s_rdo18
        apply frS_ex (v := .t [.g (rbB ⟨b.n, b.c, k2⟩ t u v), .g (anC (ckR b.c (ckAt b.c.n (q.a - 33554432#64) q.s) q.s) false), .c (.b true)]) Try.func21 rfl Try.results21 Try.ntmps21 (by simp only [List.length_cons, List.length_nil]; decide)
        · intro _ _
          simp only [rbB, aqC, k] at my
          (try simp (config := { maxSteps := 10000000 }) only [go_sem, seval, aqC, rbB, anC, k, lr, ro, rt, l, tt, oo, lb0, db0, my, la, lb, lc, t18, d18, t657, d657, d675, t675, tc, dd, ca, wi, hon, la1, lb1, lc1, l1, tt1, dd1, t181, d181, t6571, d6571, d6751, t6751, tc1, la2, lb2, lc2, l2, tt2, dd2, t182, d182, t6572, d6572, d6752, t6752, tc2, oo1, oo2, lo, lco, lro, tk1, tk2, tc1c, wd, rd]; repeat (simp (disch := omega) only [w64_d, ipos, ineg, dpos, dneg]; try simp (config := { maxSteps := 10000000 }) only [go_sem, seval, aqC, rbB, anC, k, lr, ro, rt, l, tt, oo, lb0, db0, my, la, lb, lc, t18, d18, t657, d657, d675, t675, tc, dd, ca, wi, hon, la1, lb1, lc1, l1, tt1, dd1, t181, d181, t6571, d6571, d6751, t6751, tc1, la2, lb2, lc2, l2, tt2, dd2, t182, d182, t6572, d6572, d6752, t6752, tc2, oo1, oo2, lo, lco, lro, tk1, tk2, tc1c, wd, rd]))
          (repeat' first | apply And.intro | exact nvc (nvw_refl _) (by kernel_rfl) | (intro c; exact absurd c (by omega)) | (intro _; kernel_rfl) | kernel_rfl)
          exact fin_same
        · simp
        · exact rdo_post (u' := u) (v' := v) hb ok (by rw [ev, eo, eb, et]) (by rw [et]; exact st0 _ rfl)
      · rw [hs] at wd
        have rd := fun H => s_r16r_eq (H := H) hb.kI (q.a - 201326592#64) q.s
        have eo : bOk b.n h q = true := by simp [bOk, hm, k]
        have ev : bDv (⟨b, t⟩ : Bx).d h q = plV b.k (plAt b.k.n (q.a - 201326592#64) q.s) := by simp [bDv, bRv, Dn, Dt, eo, k, hs]
        have et : bDt (⟨b, t⟩ : Bx).d h q = t := by simp [bDt, bMt, bRt, bWt, Dn, Dt, eo, k, hs]
        have eb : bDb (⟨b, t⟩ : Bx).d h q = ⟨b.n, b.c, plWire (plR b.k (plAt b.k.n (q.a - 201326592#64) q.s)) 10 (!decide (causeP (t) = 1))⟩ := by simp [bDb, bEn, bMb, bMt, bRb, bRt, bWb, bWt, Dn, Dt, eo, k, hs]
        have kI1 : PkI (plR b.k (plAt b.k.n (q.a - 201326592#64) q.s)) := hb.kI.read _
        have okc : CkOk (b.c) := hb.ok.c
        have kI2 := kI1.wire 10 (!decide (causeP (t) = 1))
        have wi := fun H => s_r16xF_eq (H := H) kI1 10 (!decide (causeP (t) = 1))
        have ca := fun Y => s_rcauseF_eq (okP Y)
        have hu1 := hu
        have hv1 := hv
        obtain ⟨k1, hk1⟩ : ∃ k1, plR b.k (plAt b.k.n (q.a - 201326592#64) q.s) = k1 := ⟨_, rfl⟩
        rw [hk1] at kI1 kI2 eb
        simp only [hk1] at wi rd
        generalize hon : (!decide (causeP t = 1)) = on at *
        obtain ⟨k2, hk2⟩ : ∃ k2, plWire k1 10 on = k2 := ⟨_, rfl⟩
        simp only [hk2] at wi
        rw [hk2] at eb kI2
        have sg1 := Go.Proofs.Ytfddaaplnnlfoaa.seg (ckC_l okc) (rpk_l kI1.ok) (rpC_l t u v)
        have sg2 := Go.Proofs.Ytfddaaplnnlfoaa.seg (ckC_l okc) (rpk_l kI2.ok) (rpC_l t u v)
        have la1 := sg1.la
        have lb1 := sg1.lb
        have lc1 := sg1.lc
        have l1 := sg1.l
        have tt1 := sg1.t
        have dd1 := sg1.d
        have t181 := sg1.t18
        have d181 := sg1.d18
        have t6571 := sg1.t657
        have d6571 := sg1.d657
        have d6751 := sg1.d675
        have t6751 := sg1.t675
        have tc1 := sg1.tc
        have la2 := sg2.la
        have lb2 := sg2.lb
        have lc2 := sg2.lc
        have l2 := sg2.l
        have tt2 := sg2.t
        have dd2 := sg2.d
        have t182 := sg2.t18
        have d182 := sg2.d18
        have t6572 := sg2.t657
        have d6572 := sg2.d657
        have d6752 := sg2.d675
        have t6752 := sg2.t675
        have tc2 := sg2.tc
        have oo1 := rb_one (c := b.c) (k := k1) (t := t) hu1 hv1
        have oo2 := rb_one (c := b.c) (k := k2) (t := t) hu1 hv1
        have lo := fun k => rpk_one k
        have lco := fun c => ckC_one c
        have lro := rpC_one t hu1 hv1
        have tk1 : List.take 657 (rpk k1) = rpk k1 := List.take_of_length_le (by omega)
        have tk2 : List.take 657 (rpk k2) = rpk k2 := List.take_of_length_le (by omega)
        have tc1c : List.take 18 (ckC b.c) = ckC b.c := List.take_of_length_le (by omega)
        unfold s_rdo18
        apply frS_ex (v := .t [.g (rbB ⟨b.n, b.c, k2⟩ t u v), .g (anC (plV b.k (plAt b.k.n (q.a - 201326592#64) q.s)) false), .c (.b true)]) Try.func21 rfl Try.results21 Try.ntmps21 (by simp only [List.length_cons, List.length_nil]; decide)
        · intro _ _
          simp only [rbB, aqC, k] at my
          (try simp (config := { maxSteps := 10000000 }) only [go_sem, seval, aqC, rbB, anC, k, lr, ro, rt, l, tt, oo, lb0, db0, my, la, lb, lc, t18, d18, t657, d657, d675, t675, tc, dd, ca, wi, hon, la1, lb1, lc1, l1, tt1, dd1, t181, d181, t6571, d6571, d6751, t6751, tc1, la2, lb2, lc2, l2, tt2, dd2, t182, d182, t6572, d6572, d6752, t6752, tc2, oo1, oo2, lo, lco, lro, tk1, tk2, tc1c, wd, rd]; repeat (simp (disch := omega) only [w64_d, ipos, ineg, dpos, dneg]; try simp (config := { maxSteps := 10000000 }) only [go_sem, seval, aqC, rbB, anC, k, lr, ro, rt, l, tt, oo, lb0, db0, my, la, lb, lc, t18, d18, t657, d657, d675, t675, tc, dd, ca, wi, hon, la1, lb1, lc1, l1, tt1, dd1, t181, d181, t6571, d6571, d6751, t6751, tc1, la2, lb2, lc2, l2, tt2, dd2, t182, d182, t6572, d6572, d6752, t6752, tc2, oo1, oo2, lo, lco, lro, tk1, tk2, tc1c, wd, rd]))
          (repeat' first | apply And.intro | exact nvc (nvw_refl _) (by kernel_rfl) | (intro c; exact absurd c (by omega)) | (intro _; kernel_rfl) | kernel_rfl)
          exact fin_same
        · simp
        · exact rdo_post (u' := u) (v' := v) hb ok (by rw [ev, eo, eb, et]) (by rw [et]; exact st0 _ rfl)
      · rw [hs] at wd
        have okH := okP ([.own (rbB b t u v), .own (aqC q), .own (.i 0 :: rb0), .own (.u 0#64 :: .b false :: zMl), .own (.u 0#64 :: .b false :: zMl)] : AH)
        have buH : u.bel (H ++ ([.own (rbB b t u v), .own (aqC q), .own (.i 0 :: rb0), .own (.u 0#64 :: .b false :: zMl), .own (.u 0#64 :: .b false :: zMl)] : AH)).length = true := Sc.bel_mono bu (by simp)
        have bvH : v.bel (H ++ ([.own (rbB b t u v), .own (aqC q), .own (.i 0 :: rb0), .own (.u 0#64 :: .b false :: zMl), .own (.u 0#64 :: .b false :: zMl)] : AH)).length = true := Sc.bel_mono bv (by simp)
        obtain ⟨u', X, ex, n1, s1, hB, B1⟩ := rread_ok okH buH (q.a - 268435456#64)
        have XO := nvw_own (nv_rread ex)
        obtain ⟨m1, N1⟩ := newR_loc ok.hx bu n1
        have dl : dlt t ((readP t (q.a - 268435456#64)).1) := dlt_deed (t := t) (kd := 0) (off := q.a - 268435456#64) (b := 0) ⟨by decide, by decide⟩
        have nbt := nb_read (off := q.a - 268435456#64) ok.nb
        have R : ∀ o1 o2 o3 o4 o5 Y, RpOk (H ++ (o1 :: o2 :: o3 :: o4 :: o5 :: (X ++ Y))) ((readP t (q.a - 268435456#64)).1) u' v := fun o1 o2 o3 o4 o5 Y => rp_mk nbt
          (slD_loc (P := ([.own (rbB b t u v), .own (aqC q), .own (.i 0 :: rb0), .own (.u 0#64 :: .b false :: zMl), .own (.u 0#64 :: .b false :: zMl)] : AH)) (Q := [o1, o2, o3, o4, o5]) (X := X) (Y := Y) (by rw [← List.append_assoc]; exact s1) (by rw [← List.append_assoc]; exact B1) m1 rfl)
          (by rw [hB]; exact slD_app ok.hy bv) (by have := dl.1; omega) (by have := dl.2.1; omega)
        have B2 := bv
        have N2 : newS H v v := newS_refl
        simp only [List.append_assoc, List.cons_append, List.nil_append, rbB, aqC, k] at ex
        have lX : (H ++ ([.own (rbB b t u v), .own (aqC q), .own (.i 0 :: rb0), .own (.u 0#64 :: .b false :: zMl), .own (.u 0#64 :: .b false :: zMl)] : AH) ++ X).length = H.length + 5 + X.length := by simp; omega
        rw [lX] at B1
        have eo : bOk b.n h q = true := by simp [bOk, hm, k]
        have ev : bDv (⟨b, t⟩ : Bx).d h q = BitVec.ofInt 64 (readP t (q.a - 268435456#64)).2.1 := by simp [bDv, bRv, Dn, Dt, eo, k, hs]
        have et : bDt (⟨b, t⟩ : Bx).d h q = (readP t (q.a - 268435456#64)).1 := by simp [bDt, bMt, bRt, bWt, Dn, Dt, eo, k, hs]
        have eb : bDb (⟨b, t⟩ : Bx).d h q = ⟨b.n, b.c, plWire (b.k) 10 (!decide (causeP ((readP t (q.a - 268435456#64)).1) = 1))⟩ := by simp [bDb, bEn, bMb, bMt, bRb, bRt, bWb, bWt, Dn, Dt, eo, k, hs]
        have kI1 : PkI (b.k) := hb.kI
        have okc : CkOk (b.c) := hb.ok.c
        have kI2 := kI1.wire 10 (!decide (causeP ((readP t (q.a - 268435456#64)).1) = 1))
        have wi := fun H => s_r16xF_eq (H := H) kI1 10 (!decide (causeP ((readP t (q.a - 268435456#64)).1) = 1))
        have ca := fun o1 o2 o3 o4 o5 Y => s_rcauseF_eq (R o1 o2 o3 o4 o5 Y)
        have hu1 := sl_one (R .dead .dead .dead .dead .dead []).hx
        have hv1 := sl_one (R .dead .dead .dead .dead .dead []).hy
        obtain ⟨t1, ht1⟩ : ∃ t1, (readP t (q.a - 268435456#64)).1 = t1 := ⟨_, rfl⟩
        rw [ht1] at et eb kI2
        simp only [ht1] at wi ca ex R
        generalize hon : (!decide (causeP t1 = 1)) = on at *
        obtain ⟨k2, hk2⟩ : ∃ k2, plWire b.k 10 on = k2 := ⟨_, rfl⟩
        simp only [hk2] at wi
        rw [hk2] at eb kI2
        have sg1 := Go.Proofs.Ytfddaaplnnlfoaa.seg (ckC_l okc) (rpk_l kI1.ok) (rpC_l t1 u' v)
        have sg2 := Go.Proofs.Ytfddaaplnnlfoaa.seg (ckC_l okc) (rpk_l kI2.ok) (rpC_l t1 u' v)
        have la1 := sg1.la
        have lb1 := sg1.lb
        have lc1 := sg1.lc
        have l1 := sg1.l
        have tt1 := sg1.t
        have dd1 := sg1.d
        have t181 := sg1.t18
        have d181 := sg1.d18
        have t6571 := sg1.t657
        have d6571 := sg1.d657
        have d6751 := sg1.d675
        have t6751 := sg1.t675
        have tc1 := sg1.tc
        have la2 := sg2.la
        have lb2 := sg2.lb
        have lc2 := sg2.lc
        have l2 := sg2.l
        have tt2 := sg2.t
        have dd2 := sg2.d
        have t182 := sg2.t18
        have d182 := sg2.d18
        have t6572 := sg2.t657
        have d6572 := sg2.d657
        have d6752 := sg2.d675
        have t6752 := sg2.t675
        have tc2 := sg2.tc
        have oo1 := rb_one (c := b.c) (k := b.k) (t := t1) hu1 hv1
        have oo2 := rb_one (c := b.c) (k := k2) (t := t1) hu1 hv1
        have lo := fun k => rpk_one k
        have lco := fun c => ckC_one c
        have lro := rpC_one t1 hu1 hv1
        have tk1 : List.take 657 (rpk b.k) = rpk b.k := List.take_of_length_le (by omega)
        have tk2 : List.take 657 (rpk k2) = rpk k2 := List.take_of_length_le (by omega)
        have tc1c : List.take 18 (ckC b.c) = ckC b.c := List.take_of_length_le (by omega)
        unfold s_rdo18
        apply frS_ex (v := .t [.g (rbB ⟨b.n, b.c, k2⟩ t1 u' v), .g (anC (BitVec.ofInt 64 (readP t (q.a - 268435456#64)).2.1) false), .c (.b true)]) Try.func21 rfl Try.results21 Try.ntmps21 (by simp only [List.length_cons, List.length_nil]; decide)
        · intro _ _
          simp only [rbB, aqC, k] at my
          (try simp (config := { maxSteps := 10000000 }) only [go_sem, seval, aqC, rbB, anC, k, lr, ro, rt, l, tt, oo, lb0, db0, my, la, lb, lc, t18, d18, t657, d657, d675, t675, tc, dd, ca, wi, hon, la1, lb1, lc1, l1, tt1, dd1, t181, d181, t6571, d6571, d6751, t6751, tc1, la2, lb2, lc2, l2, tt2, dd2, t182, d182, t6572, d6572, d6752, t6752, tc2, oo1, oo2, lo, lco, lro, tk1, tk2, tc1c, wd, ex]; repeat (simp (disch := omega) only [w64_d, ipos, ineg, dpos, dneg]; try simp (config := { maxSteps := 10000000 }) only [go_sem, seval, aqC, rbB, anC, k, lr, ro, rt, l, tt, oo, lb0, db0, my, la, lb, lc, t18, d18, t657, d657, d675, t675, tc, dd, ca, wi, hon, la1, lb1, lc1, l1, tt1, dd1, t181, d181, t6571, d6571, d6751, t6751, tc1, la2, lb2, lc2, l2, tt2, dd2, t182, d182, t6572, d6572, d6752, t6752, tc2, oo1, oo2, lo, lco, lro, tk1, tk2, tc1c, wd, ex]))
          (repeat' first | apply And.intro | exact nvc (nvw_refl _) (by kernel_rfl) | (intro c; exact absurd c (by omega)) | (intro _; kernel_rfl) | kernel_rfl)
          exact fin_same
        · simp
        · exact rdo_post (u' := u') (v' := v) hb ok (by rw [ev, eo, eb, et]) (by rw [et]; exact ⟨⟨_, rfl⟩, R _ _ _ _ _ _, Sc.bel_mono B1 (by first | (simp; done) | (simp; omega)), Sc.bel_mono B2 (by first | (simp; done) | (simp; omega)), N1, N2, nvw_loc XO rfl rfl⟩)
    · have nz := nz (.inr k)
      have wd := wh
      rcases bSp_form b.n q.a q.s with hs | hs | hs | hs
      · rw [hs] at nz; exact absurd rfl nz
      · rw [hs] at wd
        have rd := fun H => s_r15w_eq (H := H) hb.cI (q.a - 33554432#64) q.s q.d
        have eo : bOk b.n h q = true := by simp [bOk, hm, k]
        have ev : bDv (⟨b, t⟩ : Bx).d h q = 0#64 := by simp [bDv, bRv, Dn, Dt, eo, k, hs]
        have et : bDt (⟨b, t⟩ : Bx).d h q = t := by simp [bDt, bMt, bRt, bWt, Dn, Dt, eo, k, hs]
        have eb : bDb (⟨b, t⟩ : Bx).d h q = ⟨b.n, ckW b.c (ckAt b.c.n (q.a - 33554432#64) q.s) q.s q.d, plWire (b.k) 10 (!decide (causeP (t) = 1))⟩ := by simp [bDb, bEn, bMb, bMt, bRb, bRt, bWb, bWt, Dn, Dt, eo, k, hs]
        have kI1 : PkI (b.k) := hb.kI
        have okc : CkOk (ckW b.c (ckAt b.c.n (q.a - 33554432#64) q.s) q.s q.d) := ckW_ok hb.ok.c _ _ _
        have kI2 := kI1.wire 10 (!decide (causeP (t) = 1))
        have wi := fun H => s_r16xF_eq (H := H) kI1 10 (!decide (causeP (t) = 1))
        have ca := fun Y => s_rcauseF_eq (okP Y)
        have hu1 := hu
        have hv1 := hv
        obtain ⟨c1, hc1⟩ : ∃ c1, ckW b.c (ckAt b.c.n (q.a - 33554432#64) q.s) q.s q.d = c1 := ⟨_, rfl⟩
        rw [hc1] at okc eb
        simp only [hc1] at rd
        generalize hon : (!decide (causeP t = 1)) = on at *
        obtain ⟨k2, hk2⟩ : ∃ k2, plWire b.k 10 on = k2 := ⟨_, rfl⟩
        simp only [hk2] at wi
        rw [hk2] at eb kI2
        have sg1 := Go.Proofs.Ytfddaaplnnlfoaa.seg (ckC_l okc) (rpk_l kI1.ok) (rpC_l t u v)
        have sg2 := Go.Proofs.Ytfddaaplnnlfoaa.seg (ckC_l okc) (rpk_l kI2.ok) (rpC_l t u v)
        have la1 := sg1.la
        have lb1 := sg1.lb
        have lc1 := sg1.lc
        have l1 := sg1.l
        have tt1 := sg1.t
        have dd1 := sg1.d
        have t181 := sg1.t18
        have d181 := sg1.d18
        have t6571 := sg1.t657
        have d6571 := sg1.d657
        have d6751 := sg1.d675
        have t6751 := sg1.t675
        have tc1 := sg1.tc
        have la2 := sg2.la
        have lb2 := sg2.lb
        have lc2 := sg2.lc
        have l2 := sg2.l
        have tt2 := sg2.t
        have dd2 := sg2.d
        have t182 := sg2.t18
        have d182 := sg2.d18
        have t6572 := sg2.t657
        have d6572 := sg2.d657
        have d6752 := sg2.d675
        have t6752 := sg2.t675
        have tc2 := sg2.tc
        have oo1 := rb_one (c := c1) (k := b.k) (t := t) hu1 hv1
        have oo2 := rb_one (c := c1) (k := k2) (t := t) hu1 hv1
        have lo := fun k => rpk_one k
        have lco := fun c => ckC_one c
        have lro := rpC_one t hu1 hv1
        have tk1 : List.take 657 (rpk b.k) = rpk b.k := List.take_of_length_le (by omega)
        have tk2 : List.take 657 (rpk k2) = rpk k2 := List.take_of_length_le (by omega)
        have tc1c : List.take 18 (ckC c1) = ckC c1 := List.take_of_length_le (by omega)
        unfold s_rdo18
        apply frS_ex (v := .t [.g (rbB ⟨b.n, c1, k2⟩ t u v), .g (anC (0#64) false), .c (.b true)]) Try.func21 rfl Try.results21 Try.ntmps21 (by simp only [List.length_cons, List.length_nil]; decide)
        · intro _ _
          simp only [rbB, aqC, k] at my
          (try simp (config := { maxSteps := 10000000 }) only [go_sem, seval, aqC, rbB, anC, k, lr, ro, rt, l, tt, oo, lb0, db0, my, la, lb, lc, t18, d18, t657, d657, d675, t675, tc, dd, ca, wi, hon, la1, lb1, lc1, l1, tt1, dd1, t181, d181, t6571, d6571, d6751, t6751, tc1, la2, lb2, lc2, l2, tt2, dd2, t182, d182, t6572, d6572, d6752, t6752, tc2, oo1, oo2, lo, lco, lro, tk1, tk2, tc1c, wd, rd]; repeat (simp (disch := omega) only [w64_d, ipos, ineg, dpos, dneg]; try simp (config := { maxSteps := 10000000 }) only [go_sem, seval, aqC, rbB, anC, k, lr, ro, rt, l, tt, oo, lb0, db0, my, la, lb, lc, t18, d18, t657, d657, d675, t675, tc, dd, ca, wi, hon, la1, lb1, lc1, l1, tt1, dd1, t181, d181, t6571, d6571, d6751, t6751, tc1, la2, lb2, lc2, l2, tt2, dd2, t182, d182, t6572, d6572, d6752, t6752, tc2, oo1, oo2, lo, lco, lro, tk1, tk2, tc1c, wd, rd]))
          (repeat' first | apply And.intro | exact nvc (nvw_refl _) (by kernel_rfl) | (intro c; exact absurd c (by omega)) | (intro _; kernel_rfl) | kernel_rfl)
          exact fin_same
        · simp
        · exact rdo_post (u' := u) (v' := v) hb ok (by rw [ev, eo, eb, et]) (by rw [et]; exact st0 _ rfl)
      · rw [hs] at wd
        have rd := fun H => s_r16v_eq (H := H) hb.kI (q.a - 201326592#64) q.s q.d
        have eo : bOk b.n h q = true := by simp [bOk, hm, k]
        have ev : bDv (⟨b, t⟩ : Bx).d h q = 0#64 := by simp [bDv, bRv, Dn, Dt, eo, k, hs]
        have et : bDt (⟨b, t⟩ : Bx).d h q = t := by simp [bDt, bMt, bRt, bWt, Dn, Dt, eo, k, hs]
        have eb : bDb (⟨b, t⟩ : Bx).d h q = ⟨b.n, b.c, plWire (plW b.k (plAt b.k.n (q.a - 201326592#64) q.s) q.d) 10 (!decide (causeP (t) = 1))⟩ := by simp [bDb, bEn, bMb, bMt, bRb, bRt, bWb, bWt, Dn, Dt, eo, k, hs]
        have kI1 : PkI (plW b.k (plAt b.k.n (q.a - 201326592#64) q.s) q.d) := hb.kI.write _ _
        have okc : CkOk (b.c) := hb.ok.c
        have kI2 := kI1.wire 10 (!decide (causeP (t) = 1))
        have wi := fun H => s_r16xF_eq (H := H) kI1 10 (!decide (causeP (t) = 1))
        have ca := fun Y => s_rcauseF_eq (okP Y)
        have hu1 := hu
        have hv1 := hv
        obtain ⟨k1, hk1⟩ : ∃ k1, plW b.k (plAt b.k.n (q.a - 201326592#64) q.s) q.d = k1 := ⟨_, rfl⟩
        rw [hk1] at kI1 kI2 eb
        simp only [hk1] at wi rd
        generalize hon : (!decide (causeP t = 1)) = on at *
        obtain ⟨k2, hk2⟩ : ∃ k2, plWire k1 10 on = k2 := ⟨_, rfl⟩
        simp only [hk2] at wi
        rw [hk2] at eb kI2
        have sg1 := Go.Proofs.Ytfddaaplnnlfoaa.seg (ckC_l okc) (rpk_l kI1.ok) (rpC_l t u v)
        have sg2 := Go.Proofs.Ytfddaaplnnlfoaa.seg (ckC_l okc) (rpk_l kI2.ok) (rpC_l t u v)
        have la1 := sg1.la
        have lb1 := sg1.lb
        have lc1 := sg1.lc
        have l1 := sg1.l
        have tt1 := sg1.t
        have dd1 := sg1.d
        have t181 := sg1.t18
        have d181 := sg1.d18
        have t6571 := sg1.t657
        have d6571 := sg1.d657
        have d6751 := sg1.d675
        have t6751 := sg1.t675
        have tc1 := sg1.tc
        have la2 := sg2.la
        have lb2 := sg2.lb
        have lc2 := sg2.lc
        have l2 := sg2.l
        have tt2 := sg2.t
        have dd2 := sg2.d
        have t182 := sg2.t18
        have d182 := sg2.d18
        have t6572 := sg2.t657
        have d6572 := sg2.d657
        have d6752 := sg2.d675
        have t6752 := sg2.t675
        have tc2 := sg2.tc
        have oo1 := rb_one (c := b.c) (k := k1) (t := t) hu1 hv1
        have oo2 := rb_one (c := b.c) (k := k2) (t := t) hu1 hv1
        have lo := fun k => rpk_one k
        have lco := fun c => ckC_one c
        have lro := rpC_one t hu1 hv1
        have tk1 : List.take 657 (rpk k1) = rpk k1 := List.take_of_length_le (by omega)
        have tk2 : List.take 657 (rpk k2) = rpk k2 := List.take_of_length_le (by omega)
        have tc1c : List.take 18 (ckC b.c) = ckC b.c := List.take_of_length_le (by omega)
        unfold s_rdo18
        apply frS_ex (v := .t [.g (rbB ⟨b.n, b.c, k2⟩ t u v), .g (anC (0#64) false), .c (.b true)]) Try.func21 rfl Try.results21 Try.ntmps21 (by simp only [List.length_cons, List.length_nil]; decide)
        · intro _ _
          simp only [rbB, aqC, k] at my
          (try simp (config := { maxSteps := 10000000 }) only [go_sem, seval, aqC, rbB, anC, k, lr, ro, rt, l, tt, oo, lb0, db0, my, la, lb, lc, t18, d18, t657, d657, d675, t675, tc, dd, ca, wi, hon, la1, lb1, lc1, l1, tt1, dd1, t181, d181, t6571, d6571, d6751, t6751, tc1, la2, lb2, lc2, l2, tt2, dd2, t182, d182, t6572, d6572, d6752, t6752, tc2, oo1, oo2, lo, lco, lro, tk1, tk2, tc1c, wd, rd]; repeat (simp (disch := omega) only [w64_d, ipos, ineg, dpos, dneg]; try simp (config := { maxSteps := 10000000 }) only [go_sem, seval, aqC, rbB, anC, k, lr, ro, rt, l, tt, oo, lb0, db0, my, la, lb, lc, t18, d18, t657, d657, d675, t675, tc, dd, ca, wi, hon, la1, lb1, lc1, l1, tt1, dd1, t181, d181, t6571, d6571, d6751, t6751, tc1, la2, lb2, lc2, l2, tt2, dd2, t182, d182, t6572, d6572, d6752, t6752, tc2, oo1, oo2, lo, lco, lro, tk1, tk2, tc1c, wd, rd]))
          (repeat' first | apply And.intro | exact nvc (nvw_refl _) (by kernel_rfl) | (intro c; exact absurd c (by omega)) | (intro _; kernel_rfl) | kernel_rfl)
          exact fin_same
        · simp
        · exact rdo_post (u' := u) (v' := v) hb ok (by rw [ev, eo, eb, et]) (by rw [et]; exact st0 _ rfl)
      · rw [hs] at wd
        have okH := okP ([.own (rbB b t u v), .own (aqC q), .own (.i 0 :: rb0), .own (.u 0#64 :: .b false :: zMl), .own (.u 0#64 :: .b false :: zMl)] : AH)
        have buH : u.bel (H ++ ([.own (rbB b t u v), .own (aqC q), .own (.i 0 :: rb0), .own (.u 0#64 :: .b false :: zMl), .own (.u 0#64 :: .b false :: zMl)] : AH)).length = true := Sc.bel_mono bu (by simp)
        have bvH : v.bel (H ++ ([.own (rbB b t u v), .own (aqC q), .own (.i 0 :: rb0), .own (.u 0#64 :: .b false :: zMl), .own (.u 0#64 :: .b false :: zMl)] : AH)).length = true := Sc.bel_mono bv (by simp)
        obtain ⟨u', v', X, ex, n1, n2, s1, s2, B1, B2⟩ := rwrite_ok okH buH bvH (q.a - 268435456#64) (toBy_8 q.d)
        have XO := nvw_own (nv_rwrite ex)
        obtain ⟨m1, N1⟩ := newR_loc ok.hx bu n1
        obtain ⟨m2, N2⟩ := newR_loc ok.hy bv n2
        have dl : dlt t ((writeP t (q.a - 268435456#64) (toBy q.d)).1) := dlt_deed (t := t) (kd := 1) (off := q.a - 268435456#64) (toBy_8 q.d)
        have nbt := nb_write (off := q.a - 268435456#64) ok.nb (toBy_8 q.d)
        have R : ∀ o1 o2 o3 o4 o5 Y, RpOk (H ++ (o1 :: o2 :: o3 :: o4 :: o5 :: (X ++ Y))) ((writeP t (q.a - 268435456#64) (toBy q.d)).1) u' v' := fun o1 o2 o3 o4 o5 Y => rp_mk nbt
          (slD_loc (P := ([.own (rbB b t u v), .own (aqC q), .own (.i 0 :: rb0), .own (.u 0#64 :: .b false :: zMl), .own (.u 0#64 :: .b false :: zMl)] : AH)) (Q := [o1, o2, o3, o4, o5]) (X := X) (Y := Y) (by rw [← List.append_assoc]; exact s1) (by rw [← List.append_assoc]; exact B1) m1 rfl)
          (slD_loc (P := ([.own (rbB b t u v), .own (aqC q), .own (.i 0 :: rb0), .own (.u 0#64 :: .b false :: zMl), .own (.u 0#64 :: .b false :: zMl)] : AH)) (Q := [o1, o2, o3, o4, o5]) (X := X) (Y := Y) (by rw [← List.append_assoc]; exact s2) (by rw [← List.append_assoc]; exact B2) m2 rfl) (by have := dl.1; omega) (by have := dl.2.1; omega)
        simp only [List.append_assoc, List.cons_append, List.nil_append, rbB, aqC, k] at ex
        have lX : (H ++ ([.own (rbB b t u v), .own (aqC q), .own (.i 0 :: rb0), .own (.u 0#64 :: .b false :: zMl), .own (.u 0#64 :: .b false :: zMl)] : AH) ++ X).length = H.length + 5 + X.length := by simp; omega
        rw [lX] at B1
        rw [lX] at B2
        have tm := toBy_m q.d
        have eo : bOk b.n h q = true := by simp [bOk, hm, k]
        have ev : bDv (⟨b, t⟩ : Bx).d h q = 0#64 := by simp [bDv, bRv, Dn, Dt, eo, k, hs]
        have et : bDt (⟨b, t⟩ : Bx).d h q = (writeP t (q.a - 268435456#64) (toBy q.d)).1 := by simp [bDt, bMt, bRt, bWt, Dn, Dt, eo, k, hs]
        have eb : bDb (⟨b, t⟩ : Bx).d h q = ⟨b.n, b.c, plWire (b.k) 10 (!decide (causeP ((writeP t (q.a - 268435456#64) (toBy q.d)).1) = 1))⟩ := by simp [bDb, bEn, bMb, bMt, bRb, bRt, bWb, bWt, Dn, Dt, eo, k, hs]
        have kI1 : PkI (b.k) := hb.kI
        have okc : CkOk (b.c) := hb.ok.c
        have kI2 := kI1.wire 10 (!decide (causeP ((writeP t (q.a - 268435456#64) (toBy q.d)).1) = 1))
        have wi := fun H => s_r16xF_eq (H := H) kI1 10 (!decide (causeP ((writeP t (q.a - 268435456#64) (toBy q.d)).1) = 1))
        have ca := fun o1 o2 o3 o4 o5 Y => s_rcauseF_eq (R o1 o2 o3 o4 o5 Y)
        have hu1 := sl_one (R .dead .dead .dead .dead .dead []).hx
        have hv1 := sl_one (R .dead .dead .dead .dead .dead []).hy
        obtain ⟨t1, ht1⟩ : ∃ t1, (writeP t (q.a - 268435456#64) (toBy q.d)).1 = t1 := ⟨_, rfl⟩
        rw [ht1] at et eb kI2
        simp only [ht1] at wi ca ex R
        generalize hon : (!decide (causeP t1 = 1)) = on at *
        obtain ⟨k2, hk2⟩ : ∃ k2, plWire b.k 10 on = k2 := ⟨_, rfl⟩
        simp only [hk2] at wi
        rw [hk2] at eb kI2
        have sg1 := Go.Proofs.Ytfddaaplnnlfoaa.seg (ckC_l okc) (rpk_l kI1.ok) (rpC_l t1 u' v')
        have sg2 := Go.Proofs.Ytfddaaplnnlfoaa.seg (ckC_l okc) (rpk_l kI2.ok) (rpC_l t1 u' v')
        have la1 := sg1.la
        have lb1 := sg1.lb
        have lc1 := sg1.lc
        have l1 := sg1.l
        have tt1 := sg1.t
        have dd1 := sg1.d
        have t181 := sg1.t18
        have d181 := sg1.d18
        have t6571 := sg1.t657
        have d6571 := sg1.d657
        have d6751 := sg1.d675
        have t6751 := sg1.t675
        have tc1 := sg1.tc
        have la2 := sg2.la
        have lb2 := sg2.lb
        have lc2 := sg2.lc
        have l2 := sg2.l
        have tt2 := sg2.t
        have dd2 := sg2.d
        have t182 := sg2.t18
        have d182 := sg2.d18
        have t6572 := sg2.t657
        have d6572 := sg2.d657
        have d6752 := sg2.d675
        have t6752 := sg2.t675
        have tc2 := sg2.tc
        have oo1 := rb_one (c := b.c) (k := b.k) (t := t1) hu1 hv1
        have oo2 := rb_one (c := b.c) (k := k2) (t := t1) hu1 hv1
        have lo := fun k => rpk_one k
        have lco := fun c => ckC_one c
        have lro := rpC_one t1 hu1 hv1
        have tk1 : List.take 657 (rpk b.k) = rpk b.k := List.take_of_length_le (by omega)
        have tk2 : List.take 657 (rpk k2) = rpk k2 := List.take_of_length_le (by omega)
        have tc1c : List.take 18 (ckC b.c) = ckC b.c := List.take_of_length_le (by omega)
        unfold s_rdo18
        apply frS_ex (v := .t [.g (rbB ⟨b.n, b.c, k2⟩ t1 u' v'), .g (anC (0#64) false), .c (.b true)]) Try.func21 rfl Try.results21 Try.ntmps21 (by simp only [List.length_cons, List.length_nil]; decide)
        · intro _ _
          simp only [rbB, aqC, k] at my
          (try simp (config := { maxSteps := 10000000 }) only [go_sem, seval, aqC, rbB, anC, k, lr, ro, rt, l, tt, oo, lb0, db0, my, la, lb, lc, t18, d18, t657, d657, d675, t675, tc, dd, ca, wi, hon, la1, lb1, lc1, l1, tt1, dd1, t181, d181, t6571, d6571, d6751, t6751, tc1, la2, lb2, lc2, l2, tt2, dd2, t182, d182, t6572, d6572, d6752, t6752, tc2, oo1, oo2, lo, lco, lro, tk1, tk2, tc1c, wd, ex, tm]; repeat (simp (disch := omega) only [w64_d, ipos, ineg, dpos, dneg]; try simp (config := { maxSteps := 10000000 }) only [go_sem, seval, aqC, rbB, anC, k, lr, ro, rt, l, tt, oo, lb0, db0, my, la, lb, lc, t18, d18, t657, d657, d675, t675, tc, dd, ca, wi, hon, la1, lb1, lc1, l1, tt1, dd1, t181, d181, t6571, d6571, d6751, t6751, tc1, la2, lb2, lc2, l2, tt2, dd2, t182, d182, t6572, d6572, d6752, t6752, tc2, oo1, oo2, lo, lco, lro, tk1, tk2, tc1c, wd, ex, tm]))
          (repeat' first | apply And.intro | exact nvc (nvw_refl _) (by kernel_rfl) | (intro c; exact absurd c (by omega)) | (intro _; kernel_rfl) | kernel_rfl)
          exact fin_same
        · simp
        · exact rdo_post (u' := u') (v' := v') hb ok (by rw [ev, eo, eb, et]) (by rw [et]; exact ⟨⟨_, rfl⟩, R _ _ _ _ _ _, Sc.bel_mono B1 (by first | (simp; done) | (simp; omega)), Sc.bel_mono B2 (by first | (simp; done) | (simp; omega)), N1, N2, nvw_loc XO rfl rfl⟩)
    · by_cases h0 : h < 0 ∨ b.n ≤ h
      · have eo : bOk b.n h q = false := by simp [bOk, hm, k]; omega
        have ev : bDv (⟨b, t⟩ : Bx).d h q = 0#64 := by simp [bDv, Dn, eo]
        have eb : bDb (⟨b, t⟩ : Bx).d h q = b := by simp [bDb, Dn, eo]
        have et : bDt (⟨b, t⟩ : Bx).d h q = t := by simp [bDt, Dn, Dt, eo]
        unfold s_rdo18
        apply frS_ex (v := .t [.g (rbB b t u v), .g (anC 0#64 false), .c (.b false)]) Try.func21 rfl Try.results21 Try.ntmps21 (by simp only [List.length_cons, List.length_nil]; decide)
        · intro _ _
          simp only [rbB, aqC, k] at my
          by_cases h1 : h < 0
          · (try simp (config := { maxSteps := 10000000 }) only [go_sem, seval, aqC, rbB, anC, k, lr, ro, rt, l, tt, oo, lb0, db0, my, h1]; repeat (simp (disch := omega) only [w64_d, ipos, ineg, dpos, dneg]; try simp (config := { maxSteps := 10000000 }) only [go_sem, seval, aqC, rbB, anC, k, lr, ro, rt, l, tt, oo, lb0, db0, my, h1]))
            exact fin_same
          · have h2 : b.n ≤ h := by omega
            (try simp (config := { maxSteps := 10000000 }) only [go_sem, seval, aqC, rbB, anC, k, lr, ro, rt, l, tt, oo, lb0, db0, my, h1, h2]; repeat (simp (disch := omega) only [w64_d, ipos, ineg, dpos, dneg]; try simp (config := { maxSteps := 10000000 }) only [go_sem, seval, aqC, rbB, anC, k, lr, ro, rt, l, tt, oo, lb0, db0, my, h1, h2]))
            exact fin_same
        · simp
        · exact rdo_post (u' := u) (v' := v) hb ok (by rw [ev, eo, eb, et]) (by rw [et]; exact st0 _ rfl)
      · have h1 : ¬ h < 0 := by omega
        have h2 : ¬ b.n ≤ h := by omega
        have rl := fun H => s_r18l_eq (H := H) hb t hu hv h
        have eo : bOk b.n h q = true := by simp [bOk, hm, k, h1, h2]
        have ev : bDv (⟨b, t⟩ : Bx).d h q = bLn b h := by simp [bDv, bRv, Dn, Dt, eo, k]
        have et : bDt (⟨b, t⟩ : Bx).d h q = t := by simp [bDt, bMt, bRt, bWt, Dn, Dt, eo, k]
        have eb : bDb (⟨b, t⟩ : Bx).d h q = ⟨b.n, b.c, plWire (b.k) 10 (!decide (causeP (t) = 1))⟩ := by simp [bDb, bEn, bMb, bMt, bRb, bRt, bWb, bWt, Dn, Dt, eo, k]
        have kI1 : PkI (b.k) := hb.kI
        have okc : CkOk (b.c) := hb.ok.c
        have kI2 := kI1.wire 10 (!decide (causeP (t) = 1))
        have wi := fun H => s_r16xF_eq (H := H) kI1 10 (!decide (causeP (t) = 1))
        have ca := fun Y => s_rcauseF_eq (okP Y)
        have hu1 := hu
        have hv1 := hv
        unfold rbB at rl
        generalize hon : (!decide (causeP t = 1)) = on at *
        obtain ⟨k2, hk2⟩ : ∃ k2, plWire b.k 10 on = k2 := ⟨_, rfl⟩
        simp only [hk2] at wi
        rw [hk2] at eb kI2
        have sg1 := Go.Proofs.Ytfddaaplnnlfoaa.seg (ckC_l okc) (rpk_l kI1.ok) (rpC_l t u v)
        have sg2 := Go.Proofs.Ytfddaaplnnlfoaa.seg (ckC_l okc) (rpk_l kI2.ok) (rpC_l t u v)
        have la1 := sg1.la
        have lb1 := sg1.lb
        have lc1 := sg1.lc
        have l1 := sg1.l
        have tt1 := sg1.t
        have dd1 := sg1.d
        have t181 := sg1.t18
        have d181 := sg1.d18
        have t6571 := sg1.t657
        have d6571 := sg1.d657
        have d6751 := sg1.d675
        have t6751 := sg1.t675
        have tc1 := sg1.tc
        have la2 := sg2.la
        have lb2 := sg2.lb
        have lc2 := sg2.lc
        have l2 := sg2.l
        have tt2 := sg2.t
        have dd2 := sg2.d
        have t182 := sg2.t18
        have d182 := sg2.d18
        have t6572 := sg2.t657
        have d6572 := sg2.d657
        have d6752 := sg2.d675
        have t6752 := sg2.t675
        have tc2 := sg2.tc
        have oo1 := rb_one (c := b.c) (k := b.k) (t := t) hu1 hv1
        have oo2 := rb_one (c := b.c) (k := k2) (t := t) hu1 hv1
        have lo := fun k => rpk_one k
        have lco := fun c => ckC_one c
        have lro := rpC_one t hu1 hv1
        have tk1 : List.take 657 (rpk b.k) = rpk b.k := List.take_of_length_le (by omega)
        have tk2 : List.take 657 (rpk k2) = rpk k2 := List.take_of_length_le (by omega)
        have tc1c : List.take 18 (ckC b.c) = ckC b.c := List.take_of_length_le (by omega)
        unfold s_rdo18
        apply frS_ex (v := .t [.g (rbB ⟨b.n, b.c, k2⟩ t u v), .g (anC (bLn b h) false), .c (.b true)]) Try.func21 rfl Try.results21 Try.ntmps21 (by simp only [List.length_cons, List.length_nil]; decide)
        · intro _ _
          simp only [rbB, aqC, k] at my
          (try simp (config := { maxSteps := 10000000 }) only [go_sem, seval, aqC, rbB, anC, k, lr, ro, rt, l, tt, oo, lb0, db0, my, la, lb, lc, t18, d18, t657, d657, d675, t675, tc, dd, ca, wi, hon, la1, lb1, lc1, l1, tt1, dd1, t181, d181, t6571, d6571, d6751, t6751, tc1, la2, lb2, lc2, l2, tt2, dd2, t182, d182, t6572, d6572, d6752, t6752, tc2, oo1, oo2, lo, lco, lro, tk1, tk2, tc1c, h1, h2, rl]; repeat (simp (disch := omega) only [w64_d, ipos, ineg, dpos, dneg]; try simp (config := { maxSteps := 10000000 }) only [go_sem, seval, aqC, rbB, anC, k, lr, ro, rt, l, tt, oo, lb0, db0, my, la, lb, lc, t18, d18, t657, d657, d675, t675, tc, dd, ca, wi, hon, la1, lb1, lc1, l1, tt1, dd1, t181, d181, t6571, d6571, d6751, t6751, tc1, la2, lb2, lc2, l2, tt2, dd2, t182, d182, t6572, d6572, d6752, t6752, tc2, oo1, oo2, lo, lco, lro, tk1, tk2, tc1c, h1, h2, rl]))
          (repeat' first | apply And.intro | exact nvc (nvw_refl _) (by kernel_rfl) | (intro c; exact absurd c (by omega)) | (intro _; kernel_rfl) | kernel_rfl)
          exact fin_same
        · simp
        · exact rdo_post (u' := u) (v' := v) hb ok (by rw [ev, eo, eb, et]) (by rw [et]; exact st0 _ rfl)
    · skip
      have rd := fun H => s_r15t_eq (H := H) hb.cI q.d.toInt
      have eo : bOk b.n h q = true := by simp [bOk, hm, k]
      have ev : bDv (⟨b, t⟩ : Bx).d h q = 0#64 := by simp [bDv, bRv, Dn, Dt, eo, k]
      have et : bDt (⟨b, t⟩ : Bx).d h q = t := by simp [bDt, bMt, bRt, bWt, Dn, Dt, eo, k]
      have eb : bDb (⟨b, t⟩ : Bx).d h q = ⟨b.n, ckT b.c q.d.toInt, plWire (b.k) 10 (!decide (causeP (t) = 1))⟩ := by simp [bDb, bEn, bMb, bMt, bRb, bRt, bWb, bWt, Dn, Dt, eo, k]
      have kI1 : PkI (b.k) := hb.kI
      have okc : CkOk (ckT b.c q.d.toInt) := ckT_ok hb.ok.c _
      have kI2 := kI1.wire 10 (!decide (causeP (t) = 1))
      have wi := fun H => s_r16xF_eq (H := H) kI1 10 (!decide (causeP (t) = 1))
      have ca := fun Y => s_rcauseF_eq (okP Y)
      have hu1 := hu
      have hv1 := hv
      obtain ⟨c1, hc1⟩ : ∃ c1, ckT b.c q.d.toInt = c1 := ⟨_, rfl⟩
      rw [hc1] at okc eb
      simp only [hc1] at rd
      generalize hon : (!decide (causeP t = 1)) = on at *
      obtain ⟨k2, hk2⟩ : ∃ k2, plWire b.k 10 on = k2 := ⟨_, rfl⟩
      simp only [hk2] at wi
      rw [hk2] at eb kI2
      have sg1 := Go.Proofs.Ytfddaaplnnlfoaa.seg (ckC_l okc) (rpk_l kI1.ok) (rpC_l t u v)
      have sg2 := Go.Proofs.Ytfddaaplnnlfoaa.seg (ckC_l okc) (rpk_l kI2.ok) (rpC_l t u v)
      have la1 := sg1.la
      have lb1 := sg1.lb
      have lc1 := sg1.lc
      have l1 := sg1.l
      have tt1 := sg1.t
      have dd1 := sg1.d
      have t181 := sg1.t18
      have d181 := sg1.d18
      have t6571 := sg1.t657
      have d6571 := sg1.d657
      have d6751 := sg1.d675
      have t6751 := sg1.t675
      have tc1 := sg1.tc
      have la2 := sg2.la
      have lb2 := sg2.lb
      have lc2 := sg2.lc
      have l2 := sg2.l
      have tt2 := sg2.t
      have dd2 := sg2.d
      have t182 := sg2.t18
      have d182 := sg2.d18
      have t6572 := sg2.t657
      have d6572 := sg2.d657
      have d6752 := sg2.d675
      have t6752 := sg2.t675
      have tc2 := sg2.tc
      have oo1 := rb_one (c := c1) (k := b.k) (t := t) hu1 hv1
      have oo2 := rb_one (c := c1) (k := k2) (t := t) hu1 hv1
      have lo := fun k => rpk_one k
      have lco := fun c => ckC_one c
      have lro := rpC_one t hu1 hv1
      have tk1 : List.take 657 (rpk b.k) = rpk b.k := List.take_of_length_le (by omega)
      have tk2 : List.take 657 (rpk k2) = rpk k2 := List.take_of_length_le (by omega)
      have tc1c : List.take 18 (ckC c1) = ckC c1 := List.take_of_length_le (by omega)
      unfold s_rdo18
      apply frS_ex (v := .t [.g (rbB ⟨b.n, c1, k2⟩ t u v), .g (anC (0#64) false), .c (.b true)]) Try.func21 rfl Try.results21 Try.ntmps21 (by simp only [List.length_cons, List.length_nil]; decide)
      · intro _ _
        simp only [rbB, aqC, k] at my
        (try simp (config := { maxSteps := 10000000 }) only [go_sem, seval, aqC, rbB, anC, k, lr, ro, rt, l, tt, oo, lb0, db0, my, la, lb, lc, t18, d18, t657, d657, d675, t675, tc, dd, ca, wi, hon, la1, lb1, lc1, l1, tt1, dd1, t181, d181, t6571, d6571, d6751, t6751, tc1, la2, lb2, lc2, l2, tt2, dd2, t182, d182, t6572, d6572, d6752, t6752, tc2, oo1, oo2, lo, lco, lro, tk1, tk2, tc1c, rd]; repeat (simp (disch := omega) only [w64_d, ipos, ineg, dpos, dneg]; try simp (config := { maxSteps := 10000000 }) only [go_sem, seval, aqC, rbB, anC, k, lr, ro, rt, l, tt, oo, lb0, db0, my, la, lb, lc, t18, d18, t657, d657, d675, t675, tc, dd, ca, wi, hon, la1, lb1, lc1, l1, tt1, dd1, t181, d181, t6571, d6571, d6751, t6751, tc1, la2, lb2, lc2, l2, tt2, dd2, t182, d182, t6572, d6572, d6752, t6752, tc2, oo1, oo2, lo, lco, lro, tk1, tk2, tc1c, rd]))
        (repeat' first | apply And.intro | exact nvc (nvw_refl _) (by kernel_rfl) | (intro c; exact absurd c (by omega)) | (intro _; kernel_rfl) | kernel_rfl)
        exact fin_same
      · simp
      · exact rdo_post (u' := u) (v' := v) hb ok (by rw [ev, eo, eb, et]) (by rw [et]; exact st0 _ rfl)
    · skip
      have okH := okP ([.own (rbB b t u v), .own (aqC q), .own (.i 0 :: rb0), .own (.u 0#64 :: .b false :: zMl), .own (.u 0#64 :: .b false :: zMl)] : AH)
      have buH : u.bel (H ++ ([.own (rbB b t u v), .own (aqC q), .own (.i 0 :: rb0), .own (.u 0#64 :: .b false :: zMl), .own (.u 0#64 :: .b false :: zMl)] : AH)).length = true := Sc.bel_mono bu (by simp)
      have bvH : v.bel (H ++ ([.own (rbB b t u v), .own (aqC q), .own (.i 0 :: rb0), .own (.u 0#64 :: .b false :: zMl), .own (.u 0#64 :: .b false :: zMl)] : AH)).length = true := Sc.bel_mono bv (by simp)
      obtain ⟨u', X, ex, n1, s1, hB, B1⟩ := rinput_ok okH buH bvH (toBy_8 q.d)
      have XO := nvw_own (nv_rinput ex)
      obtain ⟨m1, N1⟩ := newR_loc ok.hx bu n1
      have dl : dlt t ((inputP t (toBy q.d)).1) := dlt_deed (t := t) (kd := 2) (off := 0#64) (toBy_8 q.d)
      have nbt := nb_input (b := toBy q.d) ok.nb
      have R : ∀ o1 o2 o3 o4 o5 Y, RpOk (H ++ (o1 :: o2 :: o3 :: o4 :: o5 :: (X ++ Y))) ((inputP t (toBy q.d)).1) u' v := fun o1 o2 o3 o4 o5 Y => rp_mk nbt
        (slD_loc (P := ([.own (rbB b t u v), .own (aqC q), .own (.i 0 :: rb0), .own (.u 0#64 :: .b false :: zMl), .own (.u 0#64 :: .b false :: zMl)] : AH)) (Q := [o1, o2, o3, o4, o5]) (X := X) (Y := Y) (by rw [← List.append_assoc]; exact s1) (by rw [← List.append_assoc]; exact B1) m1 rfl)
        (by rw [hB]; exact slD_app ok.hy bv) (by have := dl.1; omega) (by have := dl.2.1; omega)
      have B2 := bv
      have N2 : newS H v v := newS_refl
      simp only [List.append_assoc, List.cons_append, List.nil_append, rbB, aqC, k] at ex
      have lX : (H ++ ([.own (rbB b t u v), .own (aqC q), .own (.i 0 :: rb0), .own (.u 0#64 :: .b false :: zMl), .own (.u 0#64 :: .b false :: zMl)] : AH) ++ X).length = H.length + 5 + X.length := by simp; omega
      rw [lX] at B1
      have tm := toBy_m q.d
      have eo : bOk b.n h q = true := by simp [bOk, hm, k]
      have ev : bDv (⟨b, t⟩ : Bx).d h q = 0#64 := by simp [bDv, bRv, Dn, Dt, eo, k]
      have et : bDt (⟨b, t⟩ : Bx).d h q = (inputP t (toBy q.d)).1 := by simp [bDt, bMt, bRt, bWt, Dn, Dt, eo, k]
      have eb : bDb (⟨b, t⟩ : Bx).d h q = ⟨b.n, b.c, plWire (b.k) 10 (!decide (causeP ((inputP t (toBy q.d)).1) = 1))⟩ := by simp [bDb, bEn, bMb, bMt, bRb, bRt, bWb, bWt, Dn, Dt, eo, k]
      have kI1 : PkI (b.k) := hb.kI
      have okc : CkOk (b.c) := hb.ok.c
      have kI2 := kI1.wire 10 (!decide (causeP ((inputP t (toBy q.d)).1) = 1))
      have wi := fun H => s_r16xF_eq (H := H) kI1 10 (!decide (causeP ((inputP t (toBy q.d)).1) = 1))
      have ca := fun o1 o2 o3 o4 o5 Y => s_rcauseF_eq (R o1 o2 o3 o4 o5 Y)
      have hu1 := sl_one (R .dead .dead .dead .dead .dead []).hx
      have hv1 := sl_one (R .dead .dead .dead .dead .dead []).hy
      obtain ⟨t1, ht1⟩ : ∃ t1, (inputP t (toBy q.d)).1 = t1 := ⟨_, rfl⟩
      rw [ht1] at et eb kI2
      simp only [ht1] at wi ca ex R
      generalize hon : (!decide (causeP t1 = 1)) = on at *
      obtain ⟨k2, hk2⟩ : ∃ k2, plWire b.k 10 on = k2 := ⟨_, rfl⟩
      simp only [hk2] at wi
      rw [hk2] at eb kI2
      have sg1 := Go.Proofs.Ytfddaaplnnlfoaa.seg (ckC_l okc) (rpk_l kI1.ok) (rpC_l t1 u' v)
      have sg2 := Go.Proofs.Ytfddaaplnnlfoaa.seg (ckC_l okc) (rpk_l kI2.ok) (rpC_l t1 u' v)
      have la1 := sg1.la
      have lb1 := sg1.lb
      have lc1 := sg1.lc
      have l1 := sg1.l
      have tt1 := sg1.t
      have dd1 := sg1.d
      have t181 := sg1.t18
      have d181 := sg1.d18
      have t6571 := sg1.t657
      have d6571 := sg1.d657
      have d6751 := sg1.d675
      have t6751 := sg1.t675
      have tc1 := sg1.tc
      have la2 := sg2.la
      have lb2 := sg2.lb
      have lc2 := sg2.lc
      have l2 := sg2.l
      have tt2 := sg2.t
      have dd2 := sg2.d
      have t182 := sg2.t18
      have d182 := sg2.d18
      have t6572 := sg2.t657
      have d6572 := sg2.d657
      have d6752 := sg2.d675
      have t6752 := sg2.t675
      have tc2 := sg2.tc
      have oo1 := rb_one (c := b.c) (k := b.k) (t := t1) hu1 hv1
      have oo2 := rb_one (c := b.c) (k := k2) (t := t1) hu1 hv1
      have lo := fun k => rpk_one k
      have lco := fun c => ckC_one c
      have lro := rpC_one t1 hu1 hv1
      have tk1 : List.take 657 (rpk b.k) = rpk b.k := List.take_of_length_le (by omega)
      have tk2 : List.take 657 (rpk k2) = rpk k2 := List.take_of_length_le (by omega)
      have tc1c : List.take 18 (ckC b.c) = ckC b.c := List.take_of_length_le (by omega)
      unfold s_rdo18
      apply frS_ex (v := .t [.g (rbB ⟨b.n, b.c, k2⟩ t1 u' v), .g (anC (0#64) false), .c (.b true)]) Try.func21 rfl Try.results21 Try.ntmps21 (by simp only [List.length_cons, List.length_nil]; decide)
      · intro _ _
        simp only [rbB, aqC, k] at my
        (try simp (config := { maxSteps := 10000000 }) only [go_sem, seval, aqC, rbB, anC, k, lr, ro, rt, l, tt, oo, lb0, db0, my, la, lb, lc, t18, d18, t657, d657, d675, t675, tc, dd, ca, wi, hon, la1, lb1, lc1, l1, tt1, dd1, t181, d181, t6571, d6571, d6751, t6751, tc1, la2, lb2, lc2, l2, tt2, dd2, t182, d182, t6572, d6572, d6752, t6752, tc2, oo1, oo2, lo, lco, lro, tk1, tk2, tc1c, ex, tm]; repeat (simp (disch := omega) only [w64_d, ipos, ineg, dpos, dneg]; try simp (config := { maxSteps := 10000000 }) only [go_sem, seval, aqC, rbB, anC, k, lr, ro, rt, l, tt, oo, lb0, db0, my, la, lb, lc, t18, d18, t657, d657, d675, t675, tc, dd, ca, wi, hon, la1, lb1, lc1, l1, tt1, dd1, t181, d181, t6571, d6571, d6751, t6751, tc1, la2, lb2, lc2, l2, tt2, dd2, t182, d182, t6572, d6572, d6752, t6752, tc2, oo1, oo2, lo, lco, lro, tk1, tk2, tc1c, ex, tm]))
        (repeat' first | apply And.intro | exact nvc (nvw_refl _) (by kernel_rfl) | (intro c; exact absurd c (by omega)) | (intro _; kernel_rfl) | kernel_rfl)
        exact fin_same
      · simp
      · exact rdo_post (u' := u') (v' := v) hb ok (by rw [ev, eo, eb, et]) (by rw [et]; exact ⟨⟨_, rfl⟩, R _ _ _ _ _ _, Sc.bel_mono B1 (by first | (simp; done) | (simp; omega)), Sc.bel_mono B2 (by first | (simp; done) | (simp; omega)), N1, N2, nvw_loc XO rfl rfl⟩)
    · rcases Classical.propComplete (q.s = 10) with s10 | s10
      · skip
        have eo : bOk b.n h q = true := by simp [bOk, hm, k]
        have ev : bDv (⟨b, t⟩ : Bx).d h q = 0#64 := by simp [bDv, bRv, Dn, Dt, eo, k, s10]
        have et : bDt (⟨b, t⟩ : Bx).d h q = t := by simp [bDt, bMt, bRt, bWt, Dn, Dt, eo, k, s10]
        have eb : bDb (⟨b, t⟩ : Bx).d h q = ⟨b.n, b.c, plWire (b.k) 10 (!decide (causeP (t) = 1))⟩ := by simp [bDb, bEn, bMb, bMt, bRb, bRt, bWb, bWt, Dn, Dt, eo, k, s10]
        have kI1 : PkI (b.k) := hb.kI
        have okc : CkOk (b.c) := hb.ok.c
        have kI2 := kI1.wire 10 (!decide (causeP (t) = 1))
        have wi := fun H => s_r16xF_eq (H := H) kI1 10 (!decide (causeP (t) = 1))
        have ca := fun Y => s_rcauseF_eq (okP Y)
        have hu1 := hu
        have hv1 := hv
        generalize hon : (!decide (causeP t = 1)) = on at *
        obtain ⟨k2, hk2⟩ : ∃ k2, plWire b.k 10 on = k2 := ⟨_, rfl⟩
        simp only [hk2] at wi
        rw [hk2] at eb kI2
        have sg1 := Go.Proofs.Ytfddaaplnnlfoaa.seg (ckC_l okc) (rpk_l kI1.ok) (rpC_l t u v)
        have sg2 := Go.Proofs.Ytfddaaplnnlfoaa.seg (ckC_l okc) (rpk_l kI2.ok) (rpC_l t u v)
        have la1 := sg1.la
        have lb1 := sg1.lb
        have lc1 := sg1.lc
        have l1 := sg1.l
        have tt1 := sg1.t
        have dd1 := sg1.d
        have t181 := sg1.t18
        have d181 := sg1.d18
        have t6571 := sg1.t657
        have d6571 := sg1.d657
        have d6751 := sg1.d675
        have t6751 := sg1.t675
        have tc1 := sg1.tc
        have la2 := sg2.la
        have lb2 := sg2.lb
        have lc2 := sg2.lc
        have l2 := sg2.l
        have tt2 := sg2.t
        have dd2 := sg2.d
        have t182 := sg2.t18
        have d182 := sg2.d18
        have t6572 := sg2.t657
        have d6572 := sg2.d657
        have d6752 := sg2.d675
        have t6752 := sg2.t675
        have tc2 := sg2.tc
        have oo1 := rb_one (c := b.c) (k := b.k) (t := t) hu1 hv1
        have oo2 := rb_one (c := b.c) (k := k2) (t := t) hu1 hv1
        have lo := fun k => rpk_one k
        have lco := fun c => ckC_one c
        have lro := rpC_one t hu1 hv1
        have tk1 : List.take 657 (rpk b.k) = rpk b.k := List.take_of_length_le (by omega)
        have tk2 : List.take 657 (rpk k2) = rpk k2 := List.take_of_length_le (by omega)
        have tc1c : List.take 18 (ckC b.c) = ckC b.c := List.take_of_length_le (by omega)
        unfold s_rdo18
        apply frS_ex (v := .t [.g (rbB ⟨b.n, b.c, k2⟩ t u v), .g (anC (0#64) false), .c (.b true)]) Try.func21 rfl Try.results21 Try.ntmps21 (by simp only [List.length_cons, List.length_nil]; decide)
        · intro _ _
          simp only [rbB, aqC, k] at my
          (try simp (config := { maxSteps := 10000000 }) only [go_sem, seval, aqC, rbB, anC, k, lr, ro, rt, l, tt, oo, lb0, db0, my, la, lb, lc, t18, d18, t657, d657, d675, t675, tc, dd, ca, wi, hon, la1, lb1, lc1, l1, tt1, dd1, t181, d181, t6571, d6571, d6751, t6751, tc1, la2, lb2, lc2, l2, tt2, dd2, t182, d182, t6572, d6572, d6752, t6752, tc2, oo1, oo2, lo, lco, lro, tk1, tk2, tc1c, s10]; repeat (simp (disch := omega) only [w64_d, ipos, ineg, dpos, dneg]; try simp (config := { maxSteps := 10000000 }) only [go_sem, seval, aqC, rbB, anC, k, lr, ro, rt, l, tt, oo, lb0, db0, my, la, lb, lc, t18, d18, t657, d657, d675, t675, tc, dd, ca, wi, hon, la1, lb1, lc1, l1, tt1, dd1, t181, d181, t6571, d6571, d6751, t6751, tc1, la2, lb2, lc2, l2, tt2, dd2, t182, d182, t6572, d6572, d6752, t6752, tc2, oo1, oo2, lo, lco, lro, tk1, tk2, tc1c, s10]))
          (repeat' first | apply And.intro | exact nvc (nvw_refl _) (by kernel_rfl) | (intro c; exact absurd c (by omega)) | (intro _; kernel_rfl) | kernel_rfl)
          exact fin_same
        · simp
        · exact rdo_post (u' := u) (v' := v) hb ok (by rw [ev, eo, eb, et]) (by rw [et]; exact st0 _ rfl)
      · skip
        have rd := fun H => s_r16xF_eq (H := H) hb.kI q.s q.lv
        have eo : bOk b.n h q = true := by simp [bOk, hm, k]
        have ev : bDv (⟨b, t⟩ : Bx).d h q = 0#64 := by simp [bDv, bRv, Dn, Dt, eo, k, s10]
        have et : bDt (⟨b, t⟩ : Bx).d h q = t := by simp [bDt, bMt, bRt, bWt, Dn, Dt, eo, k, s10]
        have eb : bDb (⟨b, t⟩ : Bx).d h q = ⟨b.n, b.c, plWire (plWire b.k q.s q.lv) 10 (!decide (causeP (t) = 1))⟩ := by simp [bDb, bEn, bMb, bMt, bRb, bRt, bWb, bWt, Dn, Dt, eo, k, s10]
        have kI1 : PkI (plWire b.k q.s q.lv) := hb.kI.wire _ _
        have okc : CkOk (b.c) := hb.ok.c
        have kI2 := kI1.wire 10 (!decide (causeP (t) = 1))
        have wi := fun H => s_r16xF_eq (H := H) kI1 10 (!decide (causeP (t) = 1))
        have ca := fun Y => s_rcauseF_eq (okP Y)
        have hu1 := hu
        have hv1 := hv
        obtain ⟨k1, hk1⟩ : ∃ k1, plWire b.k q.s q.lv = k1 := ⟨_, rfl⟩
        rw [hk1] at kI1 kI2 eb
        simp only [hk1] at wi rd
        generalize hon : (!decide (causeP t = 1)) = on at *
        obtain ⟨k2, hk2⟩ : ∃ k2, plWire k1 10 on = k2 := ⟨_, rfl⟩
        simp only [hk2] at wi
        rw [hk2] at eb kI2
        have sg1 := Go.Proofs.Ytfddaaplnnlfoaa.seg (ckC_l okc) (rpk_l kI1.ok) (rpC_l t u v)
        have sg2 := Go.Proofs.Ytfddaaplnnlfoaa.seg (ckC_l okc) (rpk_l kI2.ok) (rpC_l t u v)
        have la1 := sg1.la
        have lb1 := sg1.lb
        have lc1 := sg1.lc
        have l1 := sg1.l
        have tt1 := sg1.t
        have dd1 := sg1.d
        have t181 := sg1.t18
        have d181 := sg1.d18
        have t6571 := sg1.t657
        have d6571 := sg1.d657
        have d6751 := sg1.d675
        have t6751 := sg1.t675
        have tc1 := sg1.tc
        have la2 := sg2.la
        have lb2 := sg2.lb
        have lc2 := sg2.lc
        have l2 := sg2.l
        have tt2 := sg2.t
        have dd2 := sg2.d
        have t182 := sg2.t18
        have d182 := sg2.d18
        have t6572 := sg2.t657
        have d6572 := sg2.d657
        have d6752 := sg2.d675
        have t6752 := sg2.t675
        have tc2 := sg2.tc
        have oo1 := rb_one (c := b.c) (k := k1) (t := t) hu1 hv1
        have oo2 := rb_one (c := b.c) (k := k2) (t := t) hu1 hv1
        have lo := fun k => rpk_one k
        have lco := fun c => ckC_one c
        have lro := rpC_one t hu1 hv1
        have tk1 : List.take 657 (rpk k1) = rpk k1 := List.take_of_length_le (by omega)
        have tk2 : List.take 657 (rpk k2) = rpk k2 := List.take_of_length_le (by omega)
        have tc1c : List.take 18 (ckC b.c) = ckC b.c := List.take_of_length_le (by omega)
        unfold s_rdo18
        apply frS_ex (v := .t [.g (rbB ⟨b.n, b.c, k2⟩ t u v), .g (anC (0#64) false), .c (.b true)]) Try.func21 rfl Try.results21 Try.ntmps21 (by simp only [List.length_cons, List.length_nil]; decide)
        · intro _ _
          simp only [rbB, aqC, k] at my
          (try simp (config := { maxSteps := 10000000 }) only [go_sem, seval, aqC, rbB, anC, k, lr, ro, rt, l, tt, oo, lb0, db0, my, la, lb, lc, t18, d18, t657, d657, d675, t675, tc, dd, ca, wi, hon, la1, lb1, lc1, l1, tt1, dd1, t181, d181, t6571, d6571, d6751, t6751, tc1, la2, lb2, lc2, l2, tt2, dd2, t182, d182, t6572, d6572, d6752, t6752, tc2, oo1, oo2, lo, lco, lro, tk1, tk2, tc1c, s10, rd]; repeat (simp (disch := omega) only [w64_d, ipos, ineg, dpos, dneg]; try simp (config := { maxSteps := 10000000 }) only [go_sem, seval, aqC, rbB, anC, k, lr, ro, rt, l, tt, oo, lb0, db0, my, la, lb, lc, t18, d18, t657, d657, d675, t675, tc, dd, ca, wi, hon, la1, lb1, lc1, l1, tt1, dd1, t181, d181, t6571, d6571, d6751, t6751, tc1, la2, lb2, lc2, l2, tt2, dd2, t182, d182, t6572, d6572, d6752, t6752, tc2, oo1, oo2, lo, lco, lro, tk1, tk2, tc1c, s10, rd]))
          (repeat' first | apply And.intro | exact nvc (nvw_refl _) (by kernel_rfl) | (intro c; exact absurd c (by omega)) | (intro _; kernel_rfl) | kernel_rfl)
          exact fin_same
        · simp
        · exact rdo_post (u' := u) (v' := v) hb ok (by rw [ev, eo, eb, et]) (by rw [et]; exact st0 _ rfl)
  obtain ⟨x, H1, h1, _, h2⟩ := this
  obtain ⟨u', v', rfl, st⟩ := h2 b t u v h q hb ok rfl
  exact ⟨u', v', H1, h1, st⟩
end

end
end Go.Proofs.Ytfddaaplnnlfoaa
