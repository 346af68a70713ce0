/- Layer 18: the law BusPlays. -/
import Derived.Test.YtfddaaplnnlfoaaBpC
namespace Go.Proofs.Ytfddaaplnnlfoaa
open Go.Am
set_option linter.unusedSimpArgs false
set_option linter.unusedVariables false
noncomputable section

/-! ## XBq1 -/
section
variable {H : AH}

open Classical in
inductive Cm : List Tg → List Sc → List Sc → Prop where
  | nil : Cm [] [] []
  | cons {g : Tg} {x y : Sc} {gs : List Tg} {xs ys : List Sc} (h : scEq g x y = some (decide (x = y))) (t : Cm gs xs ys) : Cm (g :: gs) (x :: xs) (y :: ys)
theorem Cm.app {g1 g2 : List Tg} {a b c d : List Sc} (h1 : Cm g1 a b) (h2 : Cm g2 c d) : Cm (g1 ++ g2) (a ++ c) (b ++ d) := by
  induction h1 with
  | nil => exact h2
  | cons h _ ih => exact .cons h ih
open Classical in
theorem Cm.eq {g : List Tg} {a b : List Sc} (h : Cm g a b) : csEq g a b = some (decide (a = b)) := by
  induction h with
  | nil => simp [csEq]
  | @cons g x y gs xs ys h _ ih =>
    simp only [csEq, h, ih]
    by_cases e1 : x = y <;> by_cases e2 : xs = ys <;> simp [e1, e2]
open Classical in
theorem cm_i (x y : Int) : scEq .n (.i x) (.i y) = some (decide (Sc.i x = Sc.i y)) := by
  by_cases e : x = y <;> simp [scEq, e]
open Classical in
theorem cm_u (x y : BitVec 64) : scEq .n (.u x) (.u y) = some (decide (Sc.u x = Sc.u y)) := by
  by_cases e : x = y <;> simp [scEq, e]
open Classical in
theorem cm_k (k : IntKind) (x y : Int) : scEq .n (.k k x) (.k k y) = some (decide (Sc.k k x = Sc.k k y)) := by
  by_cases e : x = y <;> simp [scEq, e]
open Classical in
theorem cm_b (x y : Bool) : scEq .q (.b x) (.b y) = some (decide (Sc.b x = Sc.b y)) := by
  cases x <;> cases y <;> simp [scEq]
theorem Cm.rep {α : Type} {f : α → Sc} {g : Tg} (hf : ∀ x y, Cm [g] [f x] [f y]) : ∀ {l m : List α} {n : Nat}, l.length = n → m.length = n → Cm (List.replicate n g) (l.map f) (m.map f)
  | [], [], n, h, _ => by subst h; exact .nil
  | [], _ :: _, n, h, h2 => by simp at h h2; omega
  | _ :: _, [], n, h, h2 => by simp at h h2; omega
  | x :: l, y :: m, n, h, h2 => by
    obtain ⟨k, rfl⟩ : ∃ k, n = k + 1 := ⟨n - 1, by simp at h; omega⟩
    have := (hf x y).app (Cm.rep hf (l := l) (m := m) (n := k) (by simpa using h) (by simpa using h2))
    exact this
theorem Cm.one {g : Tg} {x y : Sc} (h : Cm [g] [x] [y]) {gs : List Tg} {xs ys : List Sc} (t : Cm gs xs ys) : Cm (g :: gs) (x :: xs) (y :: ys) := h.app t
theorem c1_i (x y : Int) : Cm [.n] [.i x] [.i y] := .cons (cm_i x y) .nil
theorem c1_u (x y : BitVec 64) : Cm [.n] [.u x] [.u y] := .cons (cm_u x y) .nil
theorem c1_k (x y : Int) : Cm [.n] [k8 x] [k8 y] := .cons (cm_k _ x y) .nil
theorem c1_w (x y : BitVec 32) : Cm [.n] [w32 x] [w32 y] := .cons (cm_k _ _ _) .nil
theorem c1_b (x y : Bool) : Cm [.q] [.b x] [.b y] := .cons (cm_b x y) .nil
def tgC : List Tg := .n :: .n :: (List.replicate 8 .n ++ List.replicate 8 .q)
def tgK : List Tg := .n :: (List.replicate 32 .n ++ (.n :: .n :: .n :: (List.replicate 16 .n ++ List.replicate 16 .n)))
def tgP : List Tg := .n :: (List.replicate 32 .n ++ (List.replicate 32 .q ++ (List.replicate 32 .q ++ (List.replicate 32 .q ++ (List.replicate 512 .q ++ List.replicate 16 .n)))))
theorem cm_ck {a b : Ck} (ha : CkOk a) (hb : CkOk b) : Cm tgC (ckC a) (ckC b) :=
  (c1_i _ _).one ((c1_u _ _).one ((Cm.rep c1_u ha.c hb.c).app (Cm.rep c1_b ha.s hb.s)))
theorem cm_pk {a b : Pk} (ha : PkOk a) (hb : PkOk b) : Cm tgK (pkC a) (pkC b) :=
  (c1_i _ _).one ((Cm.rep c1_k ha.p hb.p).app ((c1_w _ _).one ((c1_w _ _).one ((c1_w _ _).one ((Cm.rep c1_w ha.e hb.e).app (Cm.rep c1_k ha.l hb.l))))))
theorem cm_rb (u w : BitVec 32) : Cm (List.replicate 32 .q) (rb32 u) (rb32 w) := by
  have e : ∀ x : BitVec 32, rb32 x = ((List.range 32).map fun i => x.getLsbD i).map Sc.b := fun x => by unfold rb32; rw [List.map_map]; rfl
  rw [e u, e w]
  exact Cm.rep c1_b (by simp) (by simp)
theorem cm_rows : ∀ {l m : List (BitVec 32)} {n : Nat}, l.length = n → m.length = n → Cm (List.replicate (n * 32) .q) (l.flatMap rb32) (m.flatMap rb32)
  | [], [], n, h, _ => by subst h; exact .nil
  | [], _ :: _, n, h, h2 => by simp at h h2; omega
  | _ :: _, [], n, h, h2 => by simp at h h2; omega
  | x :: l, y :: m, n, h, h2 => by
    obtain ⟨k, rfl⟩ : ∃ k, n = k + 1 := ⟨n - 1, by simp at h; omega⟩
    have := (cm_rb x y).app (cm_rows (l := l) (m := m) (n := k) (by simpa using h) (by simpa using h2))
    rw [List.replicate_append_replicate, show 32 + k * 32 = (k + 1) * 32 by omega] at this
    exact this
theorem cm_rp {a b : Pk} (ha : PkOk a) (hb : PkOk b) : Cm tgP (rpk a) (rpk b) :=
  (c1_i _ _).one ((Cm.rep c1_i ha.p hb.p).app ((cm_rb _ _).app ((cm_rb _ _).app ((cm_rb _ _).app ((cm_rows ha.e hb.e).app (Cm.rep c1_i ha.l hb.l))))))
theorem gT_ck : tagsT Try.prog 12 81 = some tgC := by kernel_rfl
theorem gT_rc : tagsT Try.prog 12 57 = some tgC := by kernel_rfl
theorem gT_pk : tagsT Try.prog 12 88 = some tgK := by kernel_rfl
theorem gT_rp : tagsT Try.prog 12 63 = some tgP := by kernel_rfl
open Classical in
theorem eq_ck {a b : Ck} (ha : CkOk a) (hb : CkOk b) : abin Try.prog .eql 81 (.g (ckC a)) (.g (ckC b)) = some (.c (.b (decide (a = b)))) := by
  rw [ab_g_eql _ (by simp only [go_sem, D.agg]) gT_ck, (cm_ck ha hb).eq]
  show some (AV.c (.b (decide (ckC a = ckC b)))) = _
  by_cases e : a = b
  · simp [e]
  · rw [decide_eq_false e, decide_eq_false fun h => e (ckC_inj ha hb h)]
open Classical in
theorem eq_rc {a b : Ck} (ha : CkOk a) (hb : CkOk b) : abin Try.prog .eql 57 (.g (ckC a)) (.g (ckC b)) = some (.c (.b (decide (a = b)))) := by
  rw [ab_g_eql _ (by simp only [go_sem, D.agg]) gT_rc, (cm_ck ha hb).eq]
  show some (AV.c (.b (decide (ckC a = ckC b)))) = _
  by_cases e : a = b
  · simp [e]
  · rw [decide_eq_false e, decide_eq_false fun h => e (ckC_inj ha hb h)]
open Classical in
theorem eq_pk {a b : Pk} (ha : PkOk a) (hb : PkOk b) : abin Try.prog .eql 88 (.g (pkC a)) (.g (pkC b)) = some (.c (.b (decide (a = b)))) := by
  rw [ab_g_eql _ (by simp only [go_sem, D.agg]) gT_pk, (cm_pk ha hb).eq]
  show some (AV.c (.b (decide (pkC a = pkC b)))) = _
  by_cases e : a = b
  · simp [e]
  · rw [decide_eq_false e, decide_eq_false fun h => e (pk_enc.i _ _ ha hb h)]
open Classical in
theorem eq_rp {a b : Pk} (ha : PkOk a) (hb : PkOk b) : abin Try.prog .eql 63 (.g (rpk a)) (.g (rpk b)) = some (.c (.b (decide (a = b)))) := by
  rw [ab_g_eql _ (by simp only [go_sem, D.agg]) gT_rp, (cm_rp ha hb).eq]
  show some (AV.c (.b (decide (rpk a = rpk b)))) = _
  by_cases e : a = b
  · simp [e]
  · rw [decide_eq_false e, decide_eq_false fun h => e (rpk_inj ha hb h)]
open Classical in
theorem bs_eq {a b : Bs} : decide (a = b) = (decide (a.n = b.n) && (decide (a.c = b.c) && decide (a.k = b.k))) := by
  by_cases e : a = b
  · subst e; simp
  · rw [decide_eq_false e]
    by_cases h1 : a.n = b.n
    · by_cases h2 : a.c = b.c
      · by_cases h3 : a.k = b.k
        · exfalso
          apply e
          cases a; cases b
          simp only at h1 h2 h3
          subst h1 h2 h3
          rfl
        · simp [h3]
      · simp [h2]
    · simp [h1]
theorem s_bsame_eq {D E : Bd} (hD : BI H D) (hE : BI H E) (h8 : all8 D.t.A = true ∧ all8 D.t.B = true ∧ all8 E.t.A = true ∧ all8 E.t.B = true) : s_bsame [.c (.p D.id 0 0), .c (.p E.id 0 0)] H = some (.c (.b (bSame D E))) := by
  have : ∃ v, s_bsame [.c (.p D.id 0 0), .c (.p E.id 0 0)] H = some v ∧ q_bsame [.c (.p D.id 0 0), .c (.p E.id 0 0)] H v := by
    unfold s_bsame
    apply frQ_ex (v := .c (.b (bSame D E))) Try.func16 rfl Try.results16 Try.ntmps16 (by simp only [List.length_cons, List.length_nil]; decide)
    · exact fun _ _ => rfl
    · intro _ _
      have ho := hD.ho
      have he := hE.ho
      have l1 := ckC_l hD.ok.c
      have l2 := pkC_l hD.ok.k
      have l3 := ckC_l hE.ok.c
      have l4 := pkC_l hE.ok.k
      have t1 : ∀ m : List Sc, List.take 18 (ckC D.b.c ++ m) = ckC D.b.c := fun m => List.take_left' l1
      have t2 : List.take 68 (pkC D.b.k) = pkC D.b.k := List.take_of_length_le (by omega)
      have t3 : ∀ m : List Sc, List.drop 18 (ckC D.b.c ++ m) = m := fun m => List.drop_left' l1
      have u1 : ∀ m : List Sc, List.take 18 (ckC E.b.c ++ m) = ckC E.b.c := fun m => List.take_left' l3
      have u2 : List.take 68 (pkC E.b.k) = pkC E.b.k := List.take_of_length_le (by omega)
      have u3 : ∀ m : List Sc, List.drop 18 (ckC E.b.c ++ m) = m := fun m => List.drop_left' l3
      have q1 := eq_ck hD.ok.c hE.ok.c
      have q2 := eq_pk hD.ok.k hE.ok.k
      have us := s_usame_eq (pi_ptD hD.pi) (pi_ptD hE.pi) h8
      have eB : bSame D E = (decide (D.b.n = E.b.n) && ((@decide (D.b.c = E.b.c) (Classical.propDecidable _)) && (@decide (D.b.k = E.b.k) (Classical.propDecidable _))) && sameT D.t E.t) := by
        unfold bSame
        rw [bs_eq]
      rw [eB]
      unfold busC at ho he
      generalize (@decide (D.b.c = E.b.c) (Classical.propDecidable _)) = x1 at *
      generalize (@decide (D.b.k = E.b.k) (Classical.propDecidable _)) = x2 at *
      generalize sameT D.t E.t = x3 at *
      rcases Classical.propComplete (D.b.n = E.b.n) with c | c <;> cases x1 <;> cases x2 <;> cases x3
      all_goals (try simp (config := { maxSteps := 10000000 }) only [go_sem, seval, ho, he, l1, l2, l3, l4, t1, t2, t3, u1, u2, u3, q1, q2, us, c]; repeat (simp (disch := omega) only [w64_d, ipos, ineg, dpos, dneg]; try simp (config := { maxSteps := 10000000 }) only [go_sem, seval, ho, he, l1, l2, l3, l4, t1, t2, t3, u1, u2, u3, q1, q2, us, c]))
      all_goals (repeat' first | apply And.intro | (intro c; exact absurd c (by omega)) | (intro _; kernel_rfl) | kernel_rfl)
      all_goals exact subH_refl _
    · refine ⟨fun he => by simp at he, fun D' E' he h1 h2 => ?_⟩
      simp only [List.cons.injEq, AV.c.injEq, Sc.p.injEq, and_true] at he
      obtain ⟨e1, e2⟩ := he
      rw [hD.uniq h1 e1, hE.uniq h2 e2]
  obtain ⟨v, h1, h2⟩ := this
  rw [h1, h2.2 D E rfl hD hE]
end

/-! ## XBq2 -/
section
variable {H : AH}

open Classical in
def rSame (a : Bs) (t : Pt) (b : Bs) (s : Pt) : Bool := decide (a = b) && sameB t s
def q_r18s (args : List AV) (H : AH) (w : AV) : Prop := ∀ a t u v b s x y, BsI a → BsI b → RpOk H t u v → RpOk H s x y → args = [.g (rbB a t u v), .g (rbB b s x y)] → w = .c (.b (rSame a t b s))
def s_r18s : List AV → AH → Option AV := frQ Try.prog [(57, .fq s_rsame)] 23 q_r18s
set_option maxRecDepth 100000 in
set_option maxHeartbeats 2000000 in
theorem ok_r18s : FpOk Try.prog 23 (fun args H => (s_r18s args H).map fun v => (v, H)) := frQ_ok hmix (TabOk.cons (e := .fq s_rsame) ok_rsame TabOk.nil) Try.func23 rfl Try.results23 Try.ntmps23 (by kernel_rfl) (by kernel_rfl)
theorem s_r18s_eq {a b : Bs} {t s : Pt} {u v x y : Sc} (ha : BsI a) (hb : BsI b) (o1 : RpOk H t u v) (o2 : RpOk H s x y) (bu : u.bel H.length = true) (bv : v.bel H.length = true) (bx : x.bel H.length = true) (bY : y.bel H.length = true) :
    s_r18s [.g (rbB a t u v), .g (rbB b s x y)] H = some (.c (.b (rSame a t b s))) := by
  have : ∃ w, s_r18s [.g (rbB a t u v), .g (rbB b s x y)] H = some w ∧ q_r18s [.g (rbB a t u v), .g (rbB b s x y)] H w := by
    unfold s_r18s
    apply frQ_ex (v := .c (.b (rSame a t b s))) Try.func23 rfl Try.results23 Try.ntmps23 (by simp only [List.length_cons, List.length_nil]; decide)
    · exact fun _ _ => rfl
    · intro _ _
      have hu := sl_one o1.hx
      have hv := sl_one o1.hy
      have hx := sl_one o2.hx
      have hy := sl_one o2.hy
      have sg := ha.seg t u v
      have se := hb.seg s x y
      have l1 := sg.l
      have l2 := se.l
      have t18 := sg.t18
      have d18 := sg.d18
      have t657 := sg.t657
      have d675 := sg.d675
      have tc := sg.tc
      have lc := sg.lc
      have la := sg.la
      have lb := sg.lb
      have e18 := se.t18
      have f18 := se.d18
      have e657 := se.t657
      have f675 := se.d675
      have ec := se.tc
      have mc := se.lc
      have ma := se.la
      have mb := se.lb
      have oo1 := rb_one (c := a.c) (k := a.k) (t := t) hu hv
      have oo2 := rb_one (c := b.c) (k := b.k) (t := s) hx hy
      have q1 := eq_rc ha.ok.c hb.ok.c
      have q2 := eq_rp ha.ok.k hb.ok.k
      have rs := fun Y => s_rsame_eq (rp_app (X := Y) o1 bu bv) (rp_app (X := Y) o2 bx bY)
      have eB : rSame a t b s = (decide (a.n = b.n) && ((@decide (a.c = b.c) (Classical.propDecidable _)) && (@decide (a.k = b.k) (Classical.propDecidable _))) && sameB t s) := by
        unfold rSame
        rw [bs_eq]
      rw [eB]
      unfold rbB
      generalize (@decide (a.c = b.c) (Classical.propDecidable _)) = x1 at *
      generalize (@decide (a.k = b.k) (Classical.propDecidable _)) = x2 at *
      generalize sameB t s = x3 at *
      rcases Classical.propComplete (a.n = b.n) with c | c <;> cases x1 <;> cases x2 <;> cases x3
      all_goals (try simp (config := { maxSteps := 10000000 }) only [go_sem, seval, l1, l2, t18, d18, t657, d675, tc, lc, la, lb, e18, f18, e657, f675, ec, mc, ma, mb, oo1, oo2, q1, q2, rs, c]; repeat (simp (disch := omega) only [w64_d, ipos, ineg, dpos, dneg]; try simp (config := { maxSteps := 10000000 }) only [go_sem, seval, l1, l2, t18, d18, t657, d675, tc, lc, la, lb, e18, f18, e657, f675, ec, mc, ma, mb, oo1, oo2, q1, q2, rs, c]))
      all_goals exact subH_app _ _
    · intro a' t' u' v' b' s' x' y' ha' hb' o1' o2' he
      simp only [List.cons.injEq, AV.g.injEq, and_true] at he
      obtain ⟨e1, e2⟩ := he
      obtain ⟨rfl, e3⟩ := rbB_inj ha ha' e1
      obtain ⟨rfl, rfl, rfl⟩ := rpC_inj o1 o1' e3
      obtain ⟨rfl, e4⟩ := rbB_inj hb hb' e2
      obtain ⟨rfl, rfl, rfl⟩ := rpC_inj o2 o2' e4
      rfl
  obtain ⟨w, h1, h2⟩ := this
  rw [h1, h2 a t u v b s x y ha hb o1 o2 rfl]
/-! ### is a bus as the document's -/
def q_holds18 (args : List AV) (H : AH) (w : AV) (H1 : AH) : Prop := ∀ D u v, BI H D → BsI D.b → RpOk H D.t u v → args = [.c (.p D.id 0 0), .g (rbB D.b D.t u v)] → w = .c (.b true) ∧ ∃ X, H1 = H ++ X
def s_holds18 : List AV → AH → Option (AV × AH) := frS Try.prog [(9, .fq s_blines), (51, .fq s_r18l), (12, .fq s_btime), (13, .fp s_bout), (14, .fp s_bwait), (56, .fq s_ubytes)] 22 q_holds18
set_option maxRecDepth 100000 in
set_option maxHeartbeats 2000000 in
theorem ok_holds18 : FpOk Try.prog 22 s_holds18 := frS_ok hmix (TabOk.cons (e := .fq s_blines) ok_blines (TabOk.cons (e := .fq s_r18l) ok_r18l (TabOk.cons (e := .fq s_btime) ok_btime (TabOk.cons (e := .fp s_bout) ok_bout (TabOk.cons (e := .fp s_bwait) ok_bwait (TabOk.cons (e := .fq s_ubytes) ok_ubytes TabOk.nil)))))) Try.func22 rfl Try.results22 Try.ntmps22 (by kernel_rfl) (by kernel_rfl)
theorem s_holds18_ex {D : Bd} {u v : Sc} (hB : BI H D) (hb : BsI D.b) (ok : RpOk H D.t u v) (bu : u.bel H.length = true) (bv : v.bel H.length = true) : ∃ X, s_holds18 [.c (.p D.id 0 0), .g (rbB D.b D.t u v)] H = some (.c (.b true), H ++ X) := by
  have : ∃ w H1, s_holds18 [.c (.p D.id 0 0), .g (rbB D.b D.t u v)] H = some (w, H1) ∧ H.length ≤ H1.length ∧ q_holds18 [.c (.p D.id 0 0), .g (rbB D.b D.t u v)] H w H1 := by
    have hu := sl_one ok.hx
    have hv := sl_one ok.hy
    have sg := hb.seg D.t u v
    have l := sg.l
    have d18 := sg.d18
    have tt := sg.t
    have oo := rb_one (c := D.b.c) (k := D.b.k) (t := D.t) hu hv
    have hBX := fun X => hB.app X
    have b1 := fun X h => s_blines_eq (hBX X) h
    have b2 := fun H h => s_r18l_eq (H := H) hb D.t hu hv h
    have b3 := fun X => s_btime_eq (hBX X)
    have b4 := fun X => s_bout_eq (hBX X) ok.lb
    have b5 := fun X => s_bwait_eq (hBX X) ok.la
    have la := ok.la
    have lb := ok.lb
    have g1 : (rbB D.b D.t u v).getD 2 .any = .u D.b.c.t := rfl
    have g2 : (ckC D.b.c ++ (rpk D.b.k ++ rpC D.t u v)).getD 684 .any = u := by
      have e : (ckC D.b.c ++ (rpk D.b.k ++ rpC D.t u v)) = (ckC D.b.c ++ rpk D.b.k) ++ (rpC D.t u v ++ []) := by simp
      have l1 : (ckC D.b.c ++ rpk D.b.k).length = 675 := by rw [List.length_append, sg.la, sg.lb]
      rw [e, show 684 = (ckC D.b.c ++ rpk D.b.k).length + 9 by rw [l1], getD_mid (by rw [rpC_l]; decide)]; rfl
    have g3 : (ckC D.b.c ++ (rpk D.b.k ++ rpC D.t u v)).getD 685 .any = v := by
      have e : (ckC D.b.c ++ (rpk D.b.k ++ rpC D.t u v)) = (ckC D.b.c ++ rpk D.b.k) ++ (rpC D.t u v ++ []) := by simp
      have l1 : (ckC D.b.c ++ rpk D.b.k).length = 675 := by rw [List.length_append, sg.la, sg.lb]
      rw [e, show 685 = (ckC D.b.c ++ rpk D.b.k).length + 10 by rw [l1], getD_mid (by rw [rpC_l]; decide)]; rfl
    have g0 : (ckC D.b.c ++ (rpk D.b.k ++ rpC D.t u v)).getD 1 .any = .u D.b.c.t := rfl
    obtain ⟨A, hA⟩ : ∃ A, D.t.A = A := ⟨_, rfl⟩
    obtain ⟨B, hBB⟩ : ∃ B, D.t.B = B := ⟨_, rfl⟩
    have lv : (H ++ [AObj.own (rbB D.b D.t u v)]).length = H.length + 1 := by simp
    have c1 : ∀ X, s_ubytes [.c (.sl (H.length + 1) 0 D.t.B.length D.t.B.length), .c v] (H ++ (AObj.own (rbB D.b D.t u v) :: .vec 1 (D.t.B.flatMap enc8) :: X)) = some (.c (.b true)) := fun X => by
      rw [s_ubytes_eq (L := D.t.B) (M := D.t.B) (slD_of enc8_l dc8_e (by rw [hg_len_add]; simp only [hg_succ, hg_zero, AObj.row, e8_len]) rfl (by rw [hg_len_add]; rfl)) (slD_app ok.hy bv) lb lb]
      simp
    have c2 : ∀ X, s_ubytes [.c (.sl (H.length + 2) 0 D.t.A.length D.t.A.length), .c u] (H ++ (AObj.own (rbB D.b D.t u v) :: .vec 1 (D.t.B.flatMap enc8) :: .vec 1 (D.t.A.flatMap enc8) :: X)) = some (.c (.b true)) := fun X => by
      rw [s_ubytes_eq (L := D.t.A) (M := D.t.A) (slD_of enc8_l dc8_e (by rw [hg_len_add]; simp only [hg_succ, hg_zero, AObj.row, e8_len]) rfl (by rw [hg_len_add]; rfl)) (slD_app ok.hx bu) la la]
      simp
    unfold s_holds18
    apply frS_ex (v := .c (.b true)) (H1 := H ++ [.own (rbB D.b D.t u v), .vec 1 (D.t.B.flatMap enc8), .vec 1 (D.t.A.flatMap enc8)]) Try.func22 rfl Try.results22 Try.ntmps22 (by simp only [List.length_cons, List.length_nil]; decide)
    · intro _ hH
      have bel : belH (H ++ [.own (rbB D.b D.t u v)]) = true := belH_app hH (by
        simp only [List.mem_singleton, forall_eq]
        show ((Sc.i D.b.n :: (ckC D.b.c ++ (rpk D.b.k ++ rpC D.t u v))).all _) = true
        rw [List.all_cons, rb_bel (Sc.bel_mono bu (by simp)) (Sc.bel_mono bv (by simp))]; rfl)
      unfold rbB at b2 g1 c1 c2 bel ⊢
      (try simp (config := { maxSteps := 10000000 }) only [go_sem, seval, l, oo]; repeat (simp (disch := omega) only [w64_d, ipos, ineg, dpos, dneg]; try simp (config := { maxSteps := 10000000 }) only [go_sem, seval, l, oo]))
      refine arun_for 10 (fun i => ([(0, .c (.p D.id 0 0)), (3, .c (.p H.length 0 0)), (5, .c (.i ((i : Int) - 1)))], H ++ [.own (.i D.b.n :: (ckC D.b.c ++ (rpk D.b.k ++ rpC D.t u v)))])) (Wk.fq (by simp [Am.get])) fun i hi => ?_
      by_cases hlt : i < 10
      · have e0 : (i : Int) - 1 < 9 := by omega
        have e1 : w64 ((i : Int) - 1 + 1) = ((i + 1 : Nat) : Int) - 1 := by rw [w64_d (by omega) (by omega)]; omega
        (try simp (config := { maxSteps := 10000000 }) only [go_sem, seval, e0, e1, l, tt, b1, b2]; repeat (simp (disch := omega) only [w64_d, ipos, ineg, dpos, dneg]; try simp (config := { maxSteps := 10000000 }) only [go_sem, seval, e0, e1, l, tt, b1, b2]))
        (repeat' first | apply And.intro | (intro c; exact absurd c (by omega)) | (intro _; kernel_rfl) | kernel_rfl)
        exact ⟨i + 1, by omega, by omega, Wk.fq (by simp [Am.get])⟩
      · obtain rfl : i = 10 := by omega
        (try simp (config := { maxSteps := 10000000 }) only [go_sem, seval, l, b3, b4, b5, g0, g2, g3, c1, c2]; repeat (simp (disch := omega) only [w64_d, ipos, ineg, dpos, dneg]; try simp (config := { maxSteps := 10000000 }) only [go_sem, seval, l, b3, b4, b5, g0, g2, g3, c1, c2]))
        (repeat' first | apply And.intro | exact nvc (nvw_refl _) (by kernel_rfl) | (intro c; exact absurd c (by omega)) | (intro _; kernel_rfl) | kernel_rfl)
        exact fin_same
    · simp
    · intro D' u' v' h1 _ o2 he
      simp only [List.cons.injEq, AV.c.injEq, AV.g.injEq, Sc.p.injEq, and_true] at he
      exact ⟨rfl, _, rfl⟩
  obtain ⟨w, H1, h1, _, h2⟩ := this
  obtain ⟨rfl, X, rfl⟩ := h2 D u v hB hb ok rfl
  exact ⟨X, h1⟩
end

/-! ## XBq3 -/
section
/-! ### what a deed leaves -/
theorem pkI_do {D : Bd} (h : PkI D.b.k) (i : Int) (q : Aq) : PkI (bDb D i q).k := by
  have hM : PkI (bMb D q).k := by
    unfold bMb bRb bWb
    repeat' split
    all_goals first
      | exact h
      | exact h.read _
      | exact h.write _ _
      | exact h.wire _ _
  unfold bDb
  split
  · exact hM.wire _ _
  · exact h
theorem dlt_do (D : Bd) (i : Int) (q : Aq) : dlt D.t (bDt D i q) := by
  have r : ∀ o, dlt D.t (readP D.t o).1 := fun o => dlt_deed (t := D.t) (kd := 0) (off := o) (b := 0) ⟨by decide, by decide⟩
  have w : ∀ o, dlt D.t (writeP D.t o (toBy q.d)).1 := fun o => dlt_deed (t := D.t) (kd := 1) (off := o) (toBy_8 q.d)
  have n : dlt D.t (inputP D.t (toBy q.d)).1 := dlt_deed (t := D.t) (kd := 2) (off := 0#64) (toBy_8 q.d)
  unfold bDt bMt bRt bWt
  repeat' split
  all_goals first
    | exact dlt_refl _
    | exact r _
    | exact w _
    | exact n
theorem ans_ne18 (a : BitVec 64) : abin Try.prog .neq 33 (.g (anC a false)) (.g (anC a false)) = some (.c (.b false)) := by
  have gT : tagsT Try.prog 12 33 = some (Tg.n :: Tg.q :: (List.replicate 8 [Tg.q, .q, .q, .n, .n]).flatten) := by kernel_rfl
  rw [ab_g_neq _ (by kernel_rfl) gT]
  have h : csEq (List.replicate 8 [Tg.q, .q, .q, .n, .n]).flatten zMl zMl = some true := by kernel_rfl
  have : csEq (Tg.n :: Tg.q :: (List.replicate 8 [Tg.q, .q, .q, .n, .n]).flatten) (anC a false) (anC a false) = some true := by
    unfold anC
    simp only [csEq, h]
    simp [scEq]
  rw [this]; rfl
theorem anC_l (a : BitVec 64) (g : Bool) : (anC a g).length = 42 := by unfold anC; rw [List.length_cons, List.length_cons, zMl_len]
theorem anC_one (a : BitVec 64) (g : Bool) : (anC a g).all Sc.one = true := by unfold anC; rw [List.all_cons, List.all_cons, zMl_one]; rfl
theorem anC_t (a : BitVec 64) (g : Bool) : List.take 42 (anC a g) = anC a g := List.take_of_length_le (by rw [anC_l]; exact Nat.le_refl _)
/-! ### deeds in a row -/
structure Dw where
  h : Int
  q : Aq
  hr : askR q.r
def encW (d : Dw) : List Sc := .i d.h :: aqC d.q
def dcW : List Sc → Option Dw
  | .i h :: .i k :: .u a :: .u b :: .i c :: .i s :: .i op :: .u d :: .u o :: .b lv :: r => if hr : askR r then some ⟨h, ⟨k, a, b, c, s, op, d, o, lv, r⟩, hr⟩ else none
  | _ => none
theorem dcW_e (x : Dw) : dcW (encW x) = some x := by
  obtain ⟨h, ⟨k, a, b, c, s, op, d, o, lv, r⟩, hr⟩ := x
  simp only [encW, aqC, dcW]
  rw [dif_pos hr]
theorem dcW_d (cs : List Sc) (x : Dw) (h : dcW cs = some x) : cs = encW x := by
  unfold dcW at h
  split at h
  · split at h
    · simp only [Option.some.injEq] at h
      subst h
      rfl
    · simp at h
  · simp at h
theorem encW_l (x : Dw) : (encW x).length = 20 := by
  have := x.hr.1
  simp only [encW, aqC, List.length_cons, this]
/-! ### both, at the head of the loop -/
structure LpB (H : AH) (o : List Sc) (K : AH) (n : Nat) (D : Bd) (u v : Sc) : Prop where
  bi : BI K D
  id : D.id = H.length + 2
  pid : D.pid = H.length + 1
  bs : BsI D.b
  rp : RpOk K D.t u v
  bu : u.bel K.length = true
  bv : v.bel K.length = true
  keep : ∀ j, j < H.length → hg K j = hg H j
  ob : hg K H.length = .own o
  orf : hg K (H.length + 3) = AObj.own (rbB D.b D.t u v)
  nx : ∀ i, sid D.x = some i → H.length + 4 ≤ i
  ny : ∀ i, sid D.y = some i → H.length + 4 ≤ i
  nu : ∀ i, sid u = some i → H.length + 4 ≤ i ∧ sid D.x ≠ some i ∧ sid D.y ≠ some i
  nv : ∀ i, sid v = some i → H.length + 4 ≤ i ∧ sid D.x ≠ some i ∧ sid D.y ≠ some i
  a8 : all8 D.t.A = true
  b8 : all8 D.t.B = true
  la : D.t.A.length ≤ n
  lb : D.t.B.length ≤ n
variable {H K : AH} {o : List Sc} {n : Nat} {D : Bd} {u v : Sc}
theorem LpB.len (I : LpB H o K n D u v) : H.length + 4 ≤ K.length := by
  have := hg_lt (H := K) (i := H.length + 3) (by rw [I.orf]; rfl); omega
theorem LpB.app (I : LpB H o K n D u v) (X : AH) : LpB H o (K ++ X) n D u v := by
  have l := I.len
  exact ⟨I.bi.app X, I.id, I.pid, I.bs, rp_app I.rp I.bu I.bv, Sc.bel_mono I.bu (by simp), Sc.bel_mono I.bv (by simp), fun j hj => by rw [hg_app (by omega)]; exact I.keep j hj, by rw [hg_app (by omega)]; exact I.ob, by rw [hg_app (by omega)]; exact I.orf, I.nx, I.ny, I.nu, I.nv, I.a8, I.b8, I.la, I.lb⟩
theorem rp_keep {K K' : AH} {t : Pt} {u v : Sc} (h : RpOk K t u v) (hu : ∀ i, sid u = some i → hg K' i = hg K i) (hv : ∀ i, sid v = some i → hg K' i = hg K i) : RpOk K' t u v :=
  ⟨slD_kp h.hx hu, slD_kp h.hy hv, h.e, h.l, h.m, h.s, h.dl, h.dm, h.la, h.lb⟩
theorem bel_sid {u : Sc} {K K' : AH} {A : List Int} (h : slD 1 dc8 K' u = some A) (hs : ∀ i, sid u = some i → i < K.length) : u.bel K.length = true := by
  rcases sl_shape h with rfl | ⟨i, v, n, rfl⟩
  · rfl
  · simpa [Sc.bel] using hs i rfl
theorem lp_0 (H : AH) (o : List Sc) {m : Int} (hm : 1 ≤ m ∧ m ≤ 8) : LpB H o (H ++ [AObj.own o, AObj.own (poC po0), AObj.own (busC (H.length + 1) (bN m)), AObj.own (rbB (bN m) pt0 .nils .nils)]) 0 ⟨H.length + 2, H.length + 1, bN m, pt0, .nils, .nils⟩ .nils .nils := by
  have e : H ++ [AObj.own o, AObj.own (poC po0), AObj.own (busC (H.length + 1) (bN m)), AObj.own (rbB (bN m) pt0 .nils .nils)] = (H ++ [AObj.own o]) ++ [AObj.own (poC po0), AObj.own (busC (H ++ [AObj.own o]).length (bN m))] ++ [AObj.own (rbB (bN m) pt0 .nils .nils)] := by simp
  have b0 := (dN_bi (H ++ [AObj.own o]) hm).app [AObj.own (rbB (bN m) pt0 .nils .nils)]
  rw [← e] at b0
  have ed : dN (H ++ [AObj.own o]) m = ⟨H.length + 2, H.length + 1, bN m, pt0, .nils, .nils⟩ := by simp [dN]
  rw [ed] at b0
  have kz : PkI (bN m).k := by
    refine ⟨pkN_ok m, ?_, ?_, ?_⟩
    · show 1 ≤ (pkN m).n
      rw [pkN_n hm]; exact hm.1
    · intro j hj h1
      have : (pkN m).w = 0#32 := by unfold pkN; split <;> rfl
      have h1 : (pkN m).w.getLsbD j = true := h1
      rw [this] at h1
      simp at h1
    · intro c
      have : (pkN m).e = List.replicate 16 0#32 := by unfold pkN; split <;> rfl
      show ((pkN m).e.getD c 0#32).getLsbD 0 = false
      rw [this, List.getD_eq_getElem?_getD, List.getElem?_replicate]
      split <;> simp
  refine ⟨b0, rfl, rfl, ⟨bN_ok hm, kz⟩, (show RpOk _ pt0 .nils .nils from ⟨rfl, rfl, by decide, by decide, by decide, by decide, by decide, by decide, by decide, by decide⟩), rfl, rfl, fun j hj => hg_app hj, by rw [hg_len]; rfl, by rw [hg_len_add]; rfl,
    fun i h => by simp [sid] at h, fun i h => by simp [sid] at h, fun i h => by simp [sid] at h, fun i h => by simp [sid] at h, rfl, rfl, Nat.le_refl _, Nat.le_refl _⟩
/-- one deed -/
theorem lp_step (I : LpB H o K n D u v) (hn : n < 100000) (d : Dw) : ∃ K1 X D' u' v' a q,
    s_bdo [.c (.p (H.length + 2) 0 0), .c (.i d.h), .g (aqC d.q)] K = some (.t [.g (anC a false), .c (.b q)], K1) ∧ nvw K K1 ∧ H.length + 4 ≤ K1.length ∧
    (∀ Y, hg (K1 ++ Y) (H.length + 3) = AObj.own (rbB D.b D.t u v)) ∧ (∀ j, j < H.length → ∀ Y, hg (K1 ++ Y) j = hg H j) ∧
    s_rdo18 [.g (rbB D.b D.t u v), .c (.i d.h), .g (aqC d.q)] (K1 ++ [AObj.own (anC a false)]) = some (.t [.g (rbB D'.b D'.t u' v'), .g (anC a false), .c (.b q)], K1 ++ (AObj.own (anC a false) :: X)) ∧
    nvw (K1 ++ [AObj.own (anC a false)]) (K1 ++ (AObj.own (anC a false) :: X)) ∧
    LpB H o ((K1 ++ (AObj.own (anC a false) :: (X ++ [AObj.own (rbB D'.b D'.t u' v'), AObj.own (anC a false)]))).set (H.length + 3) (AObj.own (rbB D'.b D'.t u' v'))) (n + 1) D' u' v' := by
  have l := I.len
  have fw : Few D.t := ⟨by have := I.la; omega, by have := I.lb; omega⟩
  obtain ⟨K1, e1, l1, ⟨x', y', b1, k1⟩, nv1⟩ := s_bdo_ex I.bi fw d.h d.hr
  rw [I.id] at e1
  have gj : ∀ j, j < K.length → j ≠ D.id → j ≠ D.pid → sid D.x ≠ some j → sid D.y ≠ some j → hg K1 j = hg K j := k1.keep
  have hj : ∀ j, j < H.length + 4 → j ≠ D.id → j ≠ D.pid → hg K1 j = hg K j := fun j h1 h2 h3 => gj j (by omega) h2 h3 (fun e => by have := I.nx j e; omega) (fun e => by have := I.ny j e; omega)
  have hu : ∀ {i : Nat}, sid u = some i → i < K.length := fun h => sid_lt I.rp.hx I.bu h
  have hv : ∀ {i : Nat}, sid v = some i → i < K.length := fun h => sid_lt I.rp.hy I.bv h
  have i2 := I.id
  have p2 := I.pid
  have rp1 : RpOk K1 D.t u v := rp_keep I.rp (fun i hi => gj i (hu hi) (by have := (I.nu i hi).1; omega) (by have := (I.nu i hi).1; omega) (I.nu i hi).2.1 (I.nu i hi).2.2)
    (fun i hi => gj i (hv hi) (by have := (I.nv i hi).1; omega) (by have := (I.nv i hi).1; omega) (I.nv i hi).2.1 (I.nv i hi).2.2)
  have bu1 : u.bel K1.length = true := Sc.bel_mono I.bu l1
  have bv1 : v.bel K1.length = true := Sc.bel_mono I.bv l1
  have la := I.la
  have lb := I.lb
  obtain ⟨u', v', K2, e2, st⟩ := s_rdo_ex I.bs (rp_app (X := [AObj.own (anC (bDv D d.h d.q) false)]) rp1 bu1 bv1) (Sc.bel_mono bu1 (by simp)) (Sc.bel_mono bv1 (by simp)) (by omega) (by omega) d.h d.hr
  obtain ⟨X, rfl⟩ := st.ex
  obtain ⟨d1, d2, d3⟩ := dlt_do D d.h d.q
  obtain ⟨a8, b8⟩ := d3 I.a8 I.b8
  have fx : ∀ i, sid x' = some i → H.length + 4 ≤ i := fun i hi => by
    rcases k1.fx i hi with e | e
    · exact I.nx i e
    · omega
  have fy : ∀ i, sid y' = some i → H.length + 4 ≤ i := fun i hi => by
    rcases k1.fy i hi with e | e
    · exact I.ny i e
    · omega
  have apart : ∀ {w w' : Sc}, newS (K1 ++ [AObj.own (anC (bDv D d.h d.q) false)]) w w' → (∀ i, sid w = some i → i < K.length ∧ H.length + 4 ≤ i ∧ sid D.x ≠ some i ∧ sid D.y ≠ some i) → ∀ i, sid w' = some i → H.length + 4 ≤ i ∧ sid x' ≠ some i ∧ sid y' ≠ some i := fun hw ho i hi => by
    rcases hw i hi with e | e
    · obtain ⟨a0, a1, a2, a3⟩ := ho i e
      refine ⟨a1, fun e2 => ?_, fun e2 => ?_⟩
      · rcases k1.fx i e2 with e3 | e3
        · exact a2 e3
        · omega
      · rcases k1.fy i e2 with e3 | e3
        · exact a3 e3
        · omega
    · simp only [List.length_append, List.length_cons, List.length_nil] at e
      refine ⟨by omega, fun e2 => ?_, fun e2 => ?_⟩
      · have := (bsx_lt b1.pi.hx e2).1; omega
      · have := (bsx_lt b1.pi.hy e2).1; omega
  have nu' := apart st.nu (fun i hi => ⟨hu hi, I.nu i hi⟩)
  have nv' := apart st.nv (fun i hi => ⟨hv hi, I.nv i hi⟩)
  have eX : ∀ Y, (K1 ++ [AObj.own (anC (bDv D d.h d.q) false)]) ++ X ++ Y = K1 ++ (AObj.own (anC (bDv D d.h d.q) false) :: (X ++ Y)) := fun Y => by simp
  have eX0 : (K1 ++ [AObj.own (anC (bDv D d.h d.q) false)]) ++ X = K1 ++ (AObj.own (anC (bDv D d.h d.q) false) :: X) := by simp
  refine ⟨K1, X, { D with b := bDb D d.h d.q, t := bDt D d.h d.q, x := x', y := y' }, u', v', bDv D d.h d.q, bOk D.b.n d.h d.q, e1, nv1, by omega, fun Y => by rw [hg_app (by omega), hj _ (by omega) (by omega) (by omega)]; exact I.orf, fun j h1 Y => by rw [hg_app (by omega), hj j (by omega) (by omega) (by omega)]; exact I.keep j h1, by rw [← eX0]; exact e2, by rw [← eX0]; exact st.nw, ?_⟩
  have b2 := b1.app (AObj.own (anC (bDv D d.h d.q) false) :: (X ++ [AObj.own (rbB (bDb D d.h d.q) (bDt D d.h d.q) u' v'), AObj.own (anC (bDv D d.h d.q) false)]))
  have b3 := b2.other (j := H.length + 3) (o := AObj.own (rbB (bDb D d.h d.q) (bDt D d.h d.q) u' v')) (by show H.length + 3 ≠ D.id; omega) (by show H.length + 3 ≠ D.pid; omega) (fun e => by have := fx _ e; omega) (fun e => by have := fy _ e; omega)
  have lK : H.length + 3 < (K1 ++ (AObj.own (anC (bDv D d.h d.q) false) :: (X ++ [AObj.own (rbB (bDb D d.h d.q) (bDt D d.h d.q) u' v'), AObj.own (anC (bDv D d.h d.q) false)]))).length := by simp; omega
  have rp2 : RpOk (K1 ++ (AObj.own (anC (bDv D d.h d.q) false) :: (X ++ [AObj.own (rbB (bDb D d.h d.q) (bDt D d.h d.q) u' v'), AObj.own (anC (bDv D d.h d.q) false)]))) (bDt D d.h d.q) u' v' := by
    have := rp_app (X := [AObj.own (rbB (bDb D d.h d.q) (bDt D d.h d.q) u' v'), AObj.own (anC (bDv D d.h d.q) false)]) st.rp st.bu st.bv
    rw [eX] at this
    exact this
  refine ⟨b3, I.id, I.pid, ⟨b1.ok, pkI_do I.bs.kI d.h d.q⟩, rp_keep rp2 (fun i hi => hg_set_ne' (by have := (nu' i hi).1; omega)) (fun i hi => hg_set_ne' (by have := (nv' i hi).1; omega)), ?_, ?_, fun j h1 => ?_, ?_, hg_set_same lK, fx, fy, nu', nv', a8, b8, by show (bDt D d.h d.q).A.length ≤ n + 1; omega, by show (bDt D d.h d.q).B.length ≤ n + 1; omega⟩
  · have := st.bu
    rw [eX0] at this
    exact Sc.bel_mono this (by simp)
  · have := st.bv
    rw [eX0] at this
    exact Sc.bel_mono this (by simp)
  · rw [hg_set_ne' (by omega), hg_app (by omega), hj j (by omega) (by omega) (by omega)]; exact I.keep j h1
  · rw [hg_set_ne' (by omega), hg_app (by omega), hj _ (by omega) (by omega) (by omega)]; exact I.ob
end

/-! ## XBq4 -/
section
variable {H K : AH} {o : List Sc} {n : Nat} {D : Bd} {u v : Sc}

theorem BI.stay {K K' : AH} {D : Bd} (h : BI K D) (hk : ∀ j, j < K.length → hg K' j = hg K j) : BI K' D :=
  ⟨by rw [hk _ h.lid]; exact h.ho, h.ok, pi_keep h.pi (hk _ h.lpid) (fun i hi => hk i (bsx_lt h.pi.hx hi).1) (fun i hi => hk i (bsx_lt h.pi.hy hi).1)⟩
def cloD (n : Nat) (D : Bd) : Bd := ⟨n + 3, n, D.b, D.t, .sl (n + 1) 0 D.t.A.length D.t.A.length, .sl (n + 2) 0 D.t.B.length D.t.B.length⟩
theorem clo_bi (K : AH) {D : Bd} (h : BsOk D.b) : BI (K ++ (cloC K.length D.t ++ [AObj.own (busC K.length D.b)])) (cloD K.length D) := by
  refine ⟨?_, h, ?_, .inr ⟨K.length + 1, rfl, ?_⟩, .inr ⟨K.length + 2, rfl, ?_⟩, fun i h1 h2 => ?_⟩
  · show hg _ (K.length + 3) = _
    rw [hg_len_add]; rfl
  · show hg _ K.length = _
    rw [hg_len]; rfl
  · rw [hg_len_add]; rfl
  · rw [hg_len_add]; rfl
  · simp only [cloD, sid, Option.some.injEq] at h1 h2
    omega
open Classical in
theorem same_r (C D : Bd) : bSame C D = rSame D.b D.t C.b C.t := by
  unfold bSame rSame
  rw [same_TB]
  by_cases e : C.b = D.b
  · rw [decide_eq_true e, decide_eq_true e.symm]
  · rw [decide_eq_false e, decide_eq_false (fun h => e h.symm)]
theorem bSame_refl {C D : Bd} (hb : C.b = D.b) (ht : C.t = D.t) : bSame C D = true := by
  unfold bSame
  rw [hb, ht, same_refl]
  simp
theorem lp_end (I : LpB H o K n D u v) (hn : n < 100000) (d : Dw) : ∃ (K5 X X1 X2 : AH) (C' : Bd) (u2 v2 : Sc) (a : BitVec 64) (q z : Bool),
    s_bclo [.c (.p (H.length + 2) 0 0)] K = some (.c (.p (K.length + 3) 0 0), K ++ (cloC K.length D.t ++ [AObj.own (busC K.length D.b)])) ∧
    s_bsame [.c (.p (K.length + 3) 0 0), .c (.p (H.length + 2) 0 0)] (K ++ (cloC K.length D.t ++ [AObj.own (busC K.length D.b)])) = some (.c (.b true)) ∧
    s_bdo [.c (.p (K.length + 3) 0 0), .c (.i d.h), .g (aqC d.q)] (K ++ (cloC K.length D.t ++ [AObj.own (busC K.length D.b)])) = some (.t [.g (anC a false), .c (.b q)], K5) ∧
    K.length ≤ K5.length ∧ (∀ j, j < K.length → ∀ Y, hg (K5 ++ Y) j = hg K j) ∧
    s_rdo18 [.g (rbB D.b D.t u v), .c (.i d.h), .g (aqC d.q)] K5 = some (.t [.g (rbB C'.b C'.t u2 v2), .g (anC a false), .c (.b q)], K5 ++ X) ∧ BsI C'.b ∧ Sc.one u2 = true ∧ Sc.one v2 = true ∧
    s_holds18 [.c (.p (K.length + 3) 0 0), .g (rbB C'.b C'.t u2 v2)] (K5 ++ (X ++ [AObj.own (rbB C'.b C'.t u2 v2), AObj.own (anC a false)])) = some (.c (.b true), K5 ++ (X ++ (AObj.own (rbB C'.b C'.t u2 v2) :: AObj.own (anC a false) :: X1))) ∧
    s_holds18 [.c (.p (H.length + 2) 0 0), .g (rbB D.b D.t u v)] (K5 ++ (X ++ (AObj.own (rbB C'.b C'.t u2 v2) :: AObj.own (anC a false) :: X1))) = some (.c (.b true), K5 ++ (X ++ (AObj.own (rbB C'.b C'.t u2 v2) :: AObj.own (anC a false) :: (X1 ++ X2)))) ∧
    s_bsame [.c (.p (K.length + 3) 0 0), .c (.p (H.length + 2) 0 0)] (K5 ++ (X ++ (AObj.own (rbB C'.b C'.t u2 v2) :: AObj.own (anC a false) :: (X1 ++ X2)))) = some (.c (.b z)) ∧
    s_r18s [.g (rbB D.b D.t u v), .g (rbB C'.b C'.t u2 v2)] (K5 ++ (X ++ (AObj.own (rbB C'.b C'.t u2 v2) :: AObj.own (anC a false) :: (X1 ++ X2)))) = some (.c (.b z)) := by
  have fw : Few D.t := ⟨by have := I.la; omega, by have := I.lb; omega⟩
  have hC := clo_bi K I.bi.ok
  have hD := I.bi.app (cloC K.length D.t ++ [AObj.own (busC K.length D.b)])
  have qc := s_bclo_eq I.bi fw
  have qs := s_bsame_eq hC hD ⟨I.a8, I.b8, I.a8, I.b8⟩
  rw [bSame_refl (C := cloD K.length D) (D := D) rfl rfl] at qs
  rw [I.id] at qc qs
  obtain ⟨K5, e5, l5, ⟨x', y', b5, k5⟩, _⟩ := s_bdo_ex hC fw d.h d.hr
  have l6 : K.length ≤ K5.length := by simp at l5; omega
  have gk : ∀ j, j < K.length → hg K5 j = hg K j := fun j hj => by
    rw [k5.keep j (by simp; omega) (by show j ≠ K.length + 3; omega) (by show j ≠ K.length; omega) (by simp only [cloD, sid, ne_eq, Option.some.injEq]; omega) (by simp only [cloD, sid, ne_eq, Option.some.injEq]; omega), hg_app hj]
  have hu : ∀ {i : Nat}, sid u = some i → i < K.length := fun h => sid_lt I.rp.hx I.bu h
  have hv : ∀ {i : Nat}, sid v = some i → i < K.length := fun h => sid_lt I.rp.hy I.bv h
  have rp5 : RpOk K5 D.t u v := rp_keep I.rp (fun i hi => gk i (hu hi)) (fun i hi => gk i (hv hi))
  have bu5 : u.bel K5.length = true := Sc.bel_mono I.bu l6
  have bv5 : v.bel K5.length = true := Sc.bel_mono I.bv l6
  have la := I.la
  have lb := I.lb
  obtain ⟨u2, v2, K6, e6, st⟩ := s_rdo_ex I.bs rp5 bu5 bv5 (by omega) (by omega) d.h d.hr
  obtain ⟨X, rfl⟩ := st.ex
  obtain ⟨d1, d2, d3⟩ := dlt_do (cloD K.length D) d.h d.q
  obtain ⟨a8, b8⟩ := d3 I.a8 I.b8
  let C' : Bd := { cloD K.length D with b := bDb (cloD K.length D) d.h d.q, t := bDt (cloD K.length D) d.h d.q, x := x', y := y' }
  have bs' : BsI C'.b := ⟨b5.ok, pkI_do (D := cloD K.length D) I.bs.kI d.h d.q⟩
  have rp6 : RpOk (K5 ++ X) C'.t u2 v2 := st.rp
  have ap : ∀ Y, K5 ++ X ++ Y = K5 ++ (X ++ Y) := fun Y => List.append_assoc _ _ _
  have rp7 := fun Y => rp_app (X := Y) rp6 st.bu st.bv
  simp only [ap] at rp7
  have bC := fun Y => b5.app Y
  have hD5 := I.bi.stay gk
  have bD := fun Y => hD5.app Y
  have bu7 : ∀ Y, u2.bel (K5 ++ (X ++ Y)).length = true := fun Y => Sc.bel_mono st.bu (by simp)
  have bv7 : ∀ Y, v2.bel (K5 ++ (X ++ Y)).length = true := fun Y => Sc.bel_mono st.bv (by simp)
  obtain ⟨X1, h1⟩ := s_holds18_ex (bC (X ++ [AObj.own (rbB C'.b C'.t u2 v2), AObj.own (anC (bDv (cloD K.length D) d.h d.q) false)])) bs' (rp7 _) (bu7 _) (bv7 _)
  have rpD := fun Y => rp_app (X := Y) rp5 bu5 bv5
  have buD : ∀ Y, u.bel (K5 ++ Y).length = true := fun Y => Sc.bel_mono bu5 (by simp)
  have bvD : ∀ Y, v.bel (K5 ++ Y).length = true := fun Y => Sc.bel_mono bv5 (by simp)
  obtain ⟨X2, h2⟩ := s_holds18_ex (bD (X ++ (AObj.own (rbB C'.b C'.t u2 v2) :: AObj.own (anC (bDv (cloD K.length D) d.h d.q) false) :: X1))) I.bs (rpD _) (buD _) (bvD _)
  have h3 := s_bsame_eq (bC (X ++ (AObj.own (rbB C'.b C'.t u2 v2) :: AObj.own (anC (bDv (cloD K.length D) d.h d.q) false) :: (X1 ++ X2)))) (bD _) ⟨a8, b8, I.a8, I.b8⟩
  have h4 := s_r18s_eq I.bs bs' (rpD (X ++ (AObj.own (rbB C'.b C'.t u2 v2) :: AObj.own (anC (bDv (cloD K.length D) d.h d.q) false) :: (X1 ++ X2)))) (rp7 _) (buD _) (bvD _) (bu7 _) (bv7 _)
  rw [same_r] at h3
  rw [I.id] at h2 h3
  refine ⟨K5, X, X1, X2, C', u2, v2, bDv (cloD K.length D) d.h d.q, bOk D.b.n d.h d.q, _, qc, qs, e5, l6, fun j hj Y => by rw [hg_app (by omega)]; exact gk j hj, e6, bs', sl_one rp6.hx, sl_one rp6.hy, ?_, ?_, h3, h4⟩
  · have := h1
    simp only [List.append_assoc, List.cons_append, List.nil_append] at this
    exact this
  · have := h2
    simp only [List.append_assoc, List.cons_append, List.nil_append] at this
    exact this
end

/-! ## XBq5 -/
section
theorem rbB_l {b : Bs} (h : BsI b) (t : Pt) (u v : Sc) : (rbB b t u v).length = 687 := by
  have := (h.seg t u v).l
  simp only [rbB, List.length_cons, this]
theorem rbB_one (b : Bs) (t : Pt) {u v : Sc} (hu : Sc.one u = true) (hv : Sc.one v = true) : (rbB b t u v).all Sc.one = true := by
  unfold rbB
  rw [List.all_cons, rb_one hu hv]; rfl
def s_bplays (args : List AV) (H : AH) : Option AV :=
  match args with
  | [.c (.i _), .c x, .g g] =>
    match slD 20 dcW H x, dcW g with
    | some L, some _ => if L.length ≤ 9223372036854775807 then some (.c (.b true)) else none
    | _, _ => none
  | _ => none
set_option maxHeartbeats 8000000 in
set_option maxRecDepth 100000 in
set_option maxHeartbeats 2000000 in
theorem ok_bplays : FpOk Try.prog 5 (fun args H => (s_bplays args H).map fun v => (v, H)) := by
  refine fq_ok (s := s_bplays) (tab := [(6, .fp s_bnew), (20, .pu s_rnew18), (8, .fp s_bdo), (21, .fp s_rdo18), (22, .fp s_holds18), (15, .fp s_bclo), (16, .fq s_bsame), (23, .fq s_r18s), (10, .pu s_live18)]) hmix (TabOk.cons (e := .fp s_bnew) ok_bnew (TabOk.cons (e := .pu s_rnew18) ok_rnew18 (TabOk.cons (e := .fp s_bdo) ok_bdo (TabOk.cons (e := .fp s_rdo18) ok_rdo18 (TabOk.cons (e := .fp s_holds18) ok_holds18 (TabOk.cons (e := .fp s_bclo) ok_bclo (TabOk.cons (e := .fq s_bsame) ok_bsame (TabOk.cons (e := .fq s_r18s) ok_r18s (TabOk.cons (e := .pu s_live18) ok_live18 TabOk.nil))))))))) Try.func5 rfl Try.results5 Try.ntmps5 (by kernel_rfl) (by kernel_rfl) ?_
  intro args H v h hargs hH
  unfold s_bplays at h
  split at h
  · rename_i n x g
    split at h
    · rename_i L d hL hd
      obtain rfl := dcW_d _ _ hd
      split at h
      · rename_i hc
        simp only [Option.some.injEq] at h
        subst h
        refine ⟨by simp only [List.length_cons, List.length_nil]; decide, rfl, ?_⟩
        have bx : x.bel H.length = true := by simp only [List.all_cons, AV.bel, Bool.and_eq_true] at hargs; exact hargs.2.1
        have xl : ∀ e, lenB (.sl e) (.c x) = some (.c (.i L.length)) := by
          intro e
          rcases slD_inv dcW_d hL with ⟨rfl, rfl⟩ | ⟨id2, v2, rfl, hv2, hcs2⟩ <;> rfl
        have lW := encW_l d
        have oW : (encW d).all Sc.one = true := by
          have := d.hr.2.2
          simp only [encW, aqC, List.all_cons, this]; rfl
        have gW0 : (encW d).getD 0 .any = .i d.h := rfl
        have la19 : (aqC d.q).length = 19 := by have := lW; simp only [encW, List.length_cons] at this; omega
        have gW1 : List.take 19 (List.drop 1 (encW d)) = aqC d.q := List.take_of_length_le (by show (aqC d.q).length ≤ 19; omega)
        have tW : List.take 20 (encW d) = encW d := List.take_of_length_le (by omega)
        by_cases hn : 1 ≤ n ∧ n ≤ 8
        · have g1 : ¬ n < 1 := by omega
          have g2 : ¬ 8 < n := by omega
          have nb : s_bnew [.c (.i n)] (H ++ [AObj.own (encW d)]) = some (.t [.c (.p (H.length + 2) 0 0), .c (.i 0)], H ++ [AObj.own (encW d), AObj.own (poC po0), AObj.own (busC (H.length + 1) (bN n))]) := by
            rw [s_bnew_ok hn]; simp
          by_cases h120 : (120 : Int) < (L.length : Int)
          · (try simp (config := { maxSteps := 10000000 }) only [go_sem, seval, lW, oW, tW, nb, xl, h120, g1, g2, s_live18_eq]; repeat (simp (disch := omega) only [w64_d, ipos, ineg, dpos, dneg]; try simp (config := { maxSteps := 10000000 }) only [go_sem, seval, lW, oW, tW, nb, xl, h120, g1, g2, s_live18_eq]))
            exact subH_app _ _
          have rn : s_rnew18 [.c (.i n)] = some (.g (rbB (bN n) pt0 .nils .nils)) := by
            rw [s_rnew18_eq]
            unfold rbB
            rw [show (bN n).k = pkN n from rfl, rpk_N]; rfl
          have I0 := lp_0 H (encW d) hn
          have l0 := rbB_l I0.bs pt0 .nils .nils
          have o0 := rbB_one (bN n) pt0 (u := .nils) (v := .nils) rfl rfl
          have lb0 : rb0.length = 686 := by unfold rb0; rw [List.length_append, List.length_cons, List.length_append, rp0_l]; rfl
          have db0 : List.drop 686 rb0 = [] := List.drop_of_length_le (by omega)
          (try simp (config := { maxSteps := 10000000 }) only [go_sem, seval, lW, oW, tW, nb, xl, h120, rn, l0, o0, lb0, db0]; repeat (simp (disch := omega) only [w64_d, ipos, ineg, dpos, dneg]; try simp (config := { maxSteps := 10000000 }) only [go_sem, seval, lW, oW, tW, nb, xl, h120, rn, l0, o0, lb0, db0]))
          rw [arun_loop]
          refine ⟨{s : Nat × AH × Bd × Sc × Sc // s.1 ≤ L.length ∧ LpB H (encW d) s.2.1 s.1 s.2.2.1 s.2.2.2.1 s.2.2.2.2},
            fun s => ([(0, .c (.i n)), (1, .c x), (5, .c (.p H.length 0 0)), (6, .c (.b false)), (7, .c (.p (H.length + 2) 0 0)), (9, .c (.p (H.length + 3) 0 0)), (10, .c (.i s.1.1))], s.1.2.1), fun s => L.length - s.1.1,
            ⟨(0, _, _, .nils, .nils), by simp, I0⟩, Wk.fr (by simp [Am.get]), ?_⟩
          rintro ⟨⟨k, K, D, u, v⟩, hk, I⟩
          simp only at hk I ⊢
          have lR := rbB_l I.bs D.t u v
          have oR := rbB_one D.b D.t (sl_one I.rp.hx) (sl_one I.rp.hy)
          have tR : List.take 687 (rbB D.b D.t u v) = rbB D.b D.t u v := List.take_of_length_le (by omega)
          have dR : List.drop 687 (rbB D.b D.t u v) = [] := List.drop_of_length_le (by omega)
          have aL := anC_l
          have aO := anC_one
          have aT := anC_t
          by_cases hlt : k < L.length
          · rcases slD_inv dcW_d hL with ⟨rfl, rfl⟩ | ⟨id, ver, rfl, hv, hcs⟩
            · simp at hlt
            have lid : id < H.length := by simpa [Sc.bel] using bx
            obtain ⟨e, he⟩ : ∃ a, L[k]? = some a := ⟨_, List.getElem?_eq_getElem hlt⟩
            obtain ⟨K1, X, D', u', v', a, q, e1, nv1, l3, g3, kk, e2, nv2, I1⟩ := lp_step I (by omega) e
            obtain ⟨X3, e3⟩ := s_holds18_ex I1.bi I1.bs I1.rp I1.bu I1.bv
            rw [I1.id] at e3
            have gk := I.keep id lid
            have kk1 := fun Y => kk id lid Y
            have g1 := fm_le encW_l (L := L) (k := k) hlt
            have c0 : (hg H id).cells.getD (k * 20) .any = .i e.h := by
              have := fm_cell encW_l he (i := 0) (by decide)
              rw [Nat.add_zero] at this
              rw [hcs, this]; rfl
            have c1 : List.take 19 (List.drop (k * 20 + 1) (hg H id).cells) = aqC e.q := by
              obtain ⟨P, Q, s1, s2, _⟩ := fm_split encW_l he
              rw [hcs, s1, ← s2, List.append_assoc, ← List.drop_drop, List.drop_left]
              have l19 : (aqC e.q).length = 19 := by have := encW_l e; simp only [encW, List.length_cons] at this; omega
              exact List.take_left' l19
            rw [← hcs] at g1
            have hlt2 : (k : Int) < (L.length : Int) := by omega
            have k0 : (0 : Int) ≤ (k : Int) := by omega
            have E1 : w64 ((k : Int) + 1) = ((k + 1 : Nat) : Int) := by rw [w64_d (by omega) (by omega)]; omega
            have lR' := rbB_l I1.bs D'.t u' v'
            have oR' := rbB_one D'.b D'.t (sl_one I1.rp.hx) (sl_one I1.rp.hy)
            have tR' : List.take 687 (rbB D'.b D'.t u' v') = rbB D'.b D'.t u' v' := List.take_of_length_le (by omega)
            have f1 : hg ((K1 ++ (AObj.own (anC a false) :: (X ++ [AObj.own (rbB D'.b D'.t u' v'), AObj.own (anC a false)]))).set (H.length + 3) (AObj.own (rbB D'.b D'.t u' v'))) K1.length = AObj.own (anC a false) := by
              rw [hg_set_ne' (by omega), hg_len]; rfl
            have f2 : hg ((K1 ++ (AObj.own (anC a false) :: (X ++ [AObj.own (rbB D'.b D'.t u' v'), AObj.own (anC a false)]))).set (H.length + 3) (AObj.own (rbB D'.b D'.t u' v'))) (K1.length + (X.length + 2)) = AObj.own (anC a false) := by
              rw [hg_set_ne' (by omega), hg_len_add, show X.length + 2 = (X.length + 1) + 1 by omega, hg_succ, hg_len_add]; rfl
            have f3 := I1.orf
            obtain ⟨K3, hK3⟩ : ∃ K3 : AH, (K1 ++ (AObj.own (anC a false) :: (X ++ [AObj.own (rbB D'.b D'.t u' v'), AObj.own (anC a false)]))).set (H.length + 3) (AObj.own (rbB D'.b D'.t u' v')) = K3 := ⟨_, rfl⟩
            rw [hK3] at I1 e3 f1 f2 f3
            have an := ans_ne18 a
            cases q
            all_goals (try simp (config := { maxSteps := 10000000 }) only [go_sem, seval, xl, hlt2, k0, g1, c0, c1, gk, hv.symm, e1, kk1, g3, lb0, db0, lR, oR, tR, dR, aL, aO, aT, e2, lR', oR', tR', hK3, f1, f2, f3, an, e3, E1]; repeat (simp (disch := omega) only [w64_d, ipos, ineg, dpos, dneg]; try simp (config := { maxSteps := 10000000 }) only [go_sem, seval, xl, hlt2, k0, g1, c0, c1, gk, hv.symm, e1, kk1, g3, lb0, db0, lR, oR, tR, dR, aL, aO, aT, e2, lR', oR', tR', hK3, f1, f2, f3, an, e3, E1]))
            all_goals (repeat' first | apply And.intro | exact nvc nv1 (by kernel_rfl) | exact nvc nv2 (by kernel_rfl) | (intro c; exact absurd c (by omega)) | (intro _; kernel_rfl) | kernel_rfl)
            all_goals exact ⟨⟨(k + 1, _, D', u', v'), by simp only; omega, I1.app X3⟩, by simp only; omega, Wk.fr (by simp [Am.get])⟩
          · obtain rfl : k = L.length := by omega
            obtain ⟨K5, X, X1, X2, C', u2, v2, a, q, z, qc, qs, q5, l5, gk5, q6, bs', hu2, hv2, h1, h2, h3, h4⟩ := lp_end I (by omega) d
            have l4 := I.len
            have oc : ∀ Y, hg (K ++ Y) H.length = .own (encW d) := fun Y => by rw [hg_app (by omega)]; exact I.ob
            have o5 : hg K5 H.length = .own (encW d) := by
              have := gk5 H.length (by omega) []
              rw [List.append_nil] at this
              rw [this]; exact I.ob
            have r5Y : ∀ Y, hg (K5 ++ Y) (H.length + 3) = .own (rbB D.b D.t u v) := fun Y => by rw [gk5 _ (by omega)]; exact I.orf
            have r5 : hg K5 (H.length + 3) = .own (rbB D.b D.t u v) := by
              have := r5Y []
              rwa [List.append_nil] at this
            have lR2 := rbB_l bs' C'.t u2 v2
            have oR2 := rbB_one C'.b C'.t hu2 hv2
            have tR2 : List.take 687 (rbB C'.b C'.t u2 v2) = rbB C'.b C'.t u2 v2 := List.take_of_length_le (by omega)
            have fin : ∀ Y, subH H (K5 ++ Y) := fun Y => subH_of (by simp; omega) fun i hi => by rw [gk5 i (by omega)]; exact I.keep i hi
            cases z
            all_goals (try simp (config := { maxSteps := 10000000 }) only [go_sem, seval, xl, qc, qs, oc, lW, gW0, gW1, q5, o5, r5, lR, oR, tR, q6, lb0, db0, aL, aO, aT, lR2, oR2, tR2, h1, r5Y, h2, h3, h4, s_live18_eq]; repeat (simp (disch := omega) only [w64_d, ipos, ineg, dpos, dneg]; try simp (config := { maxSteps := 10000000 }) only [go_sem, seval, xl, qc, qs, oc, lW, gW0, gW1, q5, o5, r5, lR, oR, tR, q6, lb0, db0, aL, aO, aT, lR2, oR2, tR2, h1, r5Y, h2, h3, h4, s_live18_eq]))
            all_goals (repeat' first | apply And.intro | (intro c; exact absurd c (by omega)) | (intro _; kernel_rfl) | kernel_rfl)
            all_goals exact fin _
        · have nb := s_bnew_no (H := H ++ [AObj.own (encW d)]) hn
          by_cases g1 : n < 1
          · (try simp (config := { maxSteps := 10000000 }) only [go_sem, seval, lW, oW, tW, nb, g1, s_live18_eq]; repeat (simp (disch := omega) only [w64_d, ipos, ineg, dpos, dneg]; try simp (config := { maxSteps := 10000000 }) only [go_sem, seval, lW, oW, tW, nb, g1, s_live18_eq]))
            exact subH_app _ _
          · have g2 : 8 < n := by omega
            (try simp (config := { maxSteps := 10000000 }) only [go_sem, seval, lW, oW, tW, nb, g1, g2, s_live18_eq]; repeat (simp (disch := omega) only [w64_d, ipos, ineg, dpos, dneg]; try simp (config := { maxSteps := 10000000 }) only [go_sem, seval, lW, oW, tW, nb, g1, g2, s_live18_eq]))
            exact subH_app _ _
      · simp at h
    · simp at h
  · simp at h
theorem sig_bplays (avs : List AV) (H : AH) (h : SigA [.fl false [.n .i64], .sl [.n .i64, .n .i64, .n .u64, .n .u64, .n .i64, .n .i64, .n .i64, .n .u64, .n .u64, .q, .n .i64, .q, .q, .q, .n .u64, .n .i64, .n .i64, .n .u64, .n .i64, .n .u64], .fl true [.n .i64, .n .i64, .n .u64, .n .u64, .n .i64, .n .i64, .n .i64, .n .u64, .n .u64, .q, .n .i64, .q, .q, .q, .n .u64, .n .i64, .n .i64, .n .u64, .n .i64, .n .u64]] avs H) : s_bplays avs H = some (.c (.b true)) := by
  have dec : ∀ cs, L2 FitK cs [.n .i64, .n .i64, .n .u64, .n .u64, .n .i64, .n .i64, .n .i64, .n .u64, .n .u64, .q, .n .i64, .q, .q, .q, .n .u64, .n .i64, .n .i64, .n .u64, .n .i64, .n .u64] → ∃ x : Dw, cs = encW x ∧ True := fun cs gg => by
    obtain ⟨s1, l1, rfl, q1, g0⟩ := fit_cons gg
    obtain ⟨n, rfl, _, _⟩ := fk_i q1
    obtain ⟨z0, l4, rfl, k0, g1⟩ := fit_cons g0
    obtain ⟨y0, rfl, _, _⟩ := fk_i k0
    obtain ⟨z1, l5, rfl, k1, g2⟩ := fit_cons g1
    obtain ⟨y1, rfl⟩ := fk_u k1
    obtain ⟨z2, l6, rfl, k2, g3⟩ := fit_cons g2
    obtain ⟨y2, rfl⟩ := fk_u k2
    obtain ⟨z3, l7, rfl, k3, g4⟩ := fit_cons g3
    obtain ⟨y3, rfl, _, _⟩ := fk_i k3
    obtain ⟨z4, l8, rfl, k4, g5⟩ := fit_cons g4
    obtain ⟨y4, rfl, _, _⟩ := fk_i k4
    obtain ⟨z5, l9, rfl, k5, g6⟩ := fit_cons g5
    obtain ⟨y5, rfl, _, _⟩ := fk_i k5
    obtain ⟨z6, l10, rfl, k6, g7⟩ := fit_cons g6
    obtain ⟨y6, rfl⟩ := fk_u k6
    obtain ⟨z7, l11, rfl, k7, g8⟩ := fit_cons g7
    obtain ⟨y7, rfl⟩ := fk_u k7
    obtain ⟨z8, l12, rfl, k8, g9⟩ := fit_cons g8
    obtain ⟨y8, rfl⟩ := fk_q k8
    exact ⟨⟨n, ⟨y0, y1, y2, y3, y4, y5, y6, y7, y8, l12⟩, fit_rest g9⟩, rfl, trivial⟩
  obtain ⟨s1, r1, rfl, q1, h1⟩ := sig_c h
  obtain ⟨n, rfl, _, _⟩ := fk_i q1
  obtain ⟨x, r2, rfl, h2, l, hl, hp, hn⟩ := sig_row (f := encW) (w := 20) (dc := dcW) (p := fun _ => True) dec encW_l dcW_e h1
  obtain ⟨g, r3, rfl, k0, h3⟩ := sig_g h2
  obtain rfl := sig_nil h3
  obtain ⟨d, rfl, _⟩ := dec g k0
  simp only [s_bplays, hl, dcW_e]
  rw [if_pos hn]
end

end
end Go.Proofs.Ytfddaaplnnlfoaa
