/- Layer 18: a bus: what is asked: contracts. -/
import Derived.Test.YtfddaaplnnlfoaaBsA
namespace Go.Proofs.Ytfddaaplnnlfoaa
open Go.Am
set_option linter.unusedSimpArgs false
set_option linter.unusedVariables false
noncomputable section

/-! ## XBs4 -/
section
variable {H : AH} {D : Bd}

/-- an ask -/
structure Aq where
  k : Int
  a : BitVec 64
  b : BitVec 64
  c : Int
  s : Int
  op : Int
  d : BitVec 64
  o : BitVec 64
  lv : Bool
  r : List Sc
def aqC (q : Aq) : List Sc := .i q.k :: .u q.a :: .u q.b :: .i q.c :: .i q.s :: .i q.op :: .u q.d :: .u q.o :: .b q.lv :: q.r
theorem aqC_inj {p q : Aq} (h : aqC p = aqC q) : p = q := by
  simp only [aqC, List.cons.injEq, Sc.i.injEq, Sc.u.injEq, Sc.b.injEq] at h
  obtain ⟨h1, h2, h3, h4, h5, h6, h7, h8, h9, h10⟩ := h
  cases p; cases q
  simp only at h1 h2 h3 h4 h5 h6 h7 h8 h9 h10
  subst h1 h2 h3 h4 h5 h6 h7 h8 h9 h10
  rfl
def bMy (n : Int) (q : Aq) : Bool := if q.k = 9 ∨ q.k = 10 then !decide ((bSp n q.a q.s).d = 0) else decide (q.k = 11 ∨ q.k = 18 ∨ q.k = 19 ∨ q.k = 20)
def q_bmay (args : List AV) (H : AH) (v : AV) : Prop := (∀ q, args = [.c .nilp, .g (aqC q)] → v = .c (.b false)) ∧ ∀ D q, args = [.c (.p D.id 0 0), .g (aqC q)] → BI H D → v = .c (.b (bMy D.b.n q))
def s_bmay : List AV → AH → Option AV := frQ Try.prog [(17, .pu s_bfits)] 11 q_bmay
set_option maxRecDepth 100000 in
set_option maxHeartbeats 2000000 in
theorem ok_bmay : FpOk Try.prog 11 (fun args H => (s_bmay args H).map fun v => (v, H)) := frQ_ok hmix (TabOk.cons (e := .pu s_bfits) ok_bfits TabOk.nil) Try.func11 rfl Try.results11 Try.ntmps11 (by kernel_rfl) (by kernel_rfl)
theorem s_bmay_nil {q : Aq} (hq : askR q.r) : s_bmay [.c .nilp, .g (aqC q)] H = some (.c (.b false)) := by
  have : ∃ v, s_bmay [.c .nilp, .g (aqC q)] H = some v ∧ q_bmay [.c .nilp, .g (aqC q)] H v := by
    unfold s_bmay
    apply frQ_ex (v := .c (.b false)) Try.func11 rfl Try.results11 Try.ntmps11 (by simp only [List.length_cons, List.length_nil]; decide)
    · exact fun _ _ => rfl
    · intro _ _
      (try simp (config := { maxSteps := 10000000 }) only [go_sem, seval, aqC, hq.1, hq.2.2]; repeat (simp (disch := omega) only [w64_d, ipos, ineg, dpos, dneg]; try simp (config := { maxSteps := 10000000 }) only [go_sem, seval, aqC, hq.1, hq.2.2]))
      exact subH_app _ _
    · refine ⟨fun _ _ => rfl, fun E k he hE => ?_⟩
      simp at he
  obtain ⟨v, h1, h2⟩ := this
  rw [h1, h2.1 q rfl]
theorem bf_eq {n : Int} {a : BitVec 64} {s : Int} : s_bfits [.c (.i n), .c (.u a), .c (.i s)] = some (.c (.b (!decide ((bSp n a s).d = 0)))) := rfl
theorem s_bmay_eq (hB : BI H D) {q : Aq} (hq : askR q.r) : s_bmay [.c (.p D.id 0 0), .g (aqC q)] H = some (.c (.b (bMy D.b.n q))) := by
  have : ∃ v, s_bmay [.c (.p D.id 0 0), .g (aqC q)] H = some v ∧ q_bmay [.c (.p D.id 0 0), .g (aqC q)] H v := by
    unfold s_bmay
    apply frQ_ex (v := .c (.b (bMy D.b.n q))) Try.func11 rfl Try.results11 Try.ntmps11 (by simp only [List.length_cons, List.length_nil]; decide)
    · exact fun _ _ => rfl
    · intro _ _
      have hoX : ∀ X, hg (H ++ X) D.id = .own (busC D.pid D.b) := fun X => (hB.app X).ho
      have ll := hB.l
      have d1 : (busC D.pid D.b).getD 1 .any = .i D.b.n := rfl
      have bf := bf_eq (n := D.b.n) (a := q.a) (s := q.s)
      unfold bMy
      rcases Classical.propComplete (q.k = 9) with k1 | k1
      · (try simp (config := { maxSteps := 10000000 }) only [go_sem, seval, aqC, hq.1, hq.2.2, hoX, ll, d1, bf, k1]; repeat (simp (disch := omega) only [w64_d, ipos, ineg, dpos, dneg]; try simp (config := { maxSteps := 10000000 }) only [go_sem, seval, aqC, hq.1, hq.2.2, hoX, ll, d1, bf, k1]))
        exact subH_app _ _
      rcases Classical.propComplete (q.k = 10) with k2 | k2
      · (try simp (config := { maxSteps := 10000000 }) only [go_sem, seval, aqC, hq.1, hq.2.2, hoX, ll, d1, bf, k1, k2]; repeat (simp (disch := omega) only [w64_d, ipos, ineg, dpos, dneg]; try simp (config := { maxSteps := 10000000 }) only [go_sem, seval, aqC, hq.1, hq.2.2, hoX, ll, d1, bf, k1, k2]))
        exact subH_app _ _
      rcases Classical.propComplete (q.k = 11) with k3 | k3
      · (try simp (config := { maxSteps := 10000000 }) only [go_sem, seval, aqC, hq.1, hq.2.2, k1, k2, k3]; repeat (simp (disch := omega) only [w64_d, ipos, ineg, dpos, dneg]; try simp (config := { maxSteps := 10000000 }) only [go_sem, seval, aqC, hq.1, hq.2.2, k1, k2, k3]))
        exact subH_app _ _
      rcases Classical.propComplete (q.k = 18) with k4 | k4
      · (try simp (config := { maxSteps := 10000000 }) only [go_sem, seval, aqC, hq.1, hq.2.2, k1, k2, k3, k4]; repeat (simp (disch := omega) only [w64_d, ipos, ineg, dpos, dneg]; try simp (config := { maxSteps := 10000000 }) only [go_sem, seval, aqC, hq.1, hq.2.2, k1, k2, k3, k4]))
        exact subH_app _ _
      rcases Classical.propComplete (q.k = 19) with k5 | k5
      · (try simp (config := { maxSteps := 10000000 }) only [go_sem, seval, aqC, hq.1, hq.2.2, k1, k2, k3, k4, k5]; repeat (simp (disch := omega) only [w64_d, ipos, ineg, dpos, dneg]; try simp (config := { maxSteps := 10000000 }) only [go_sem, seval, aqC, hq.1, hq.2.2, k1, k2, k3, k4, k5]))
        exact subH_app _ _
      rcases Classical.propComplete (q.k = 20) with k6 | k6
      all_goals (try simp (config := { maxSteps := 10000000 }) only [go_sem, seval, aqC, hq.1, hq.2.2, k1, k2, k3, k4, k5, k6]; repeat (simp (disch := omega) only [w64_d, ipos, ineg, dpos, dneg]; try simp (config := { maxSteps := 10000000 }) only [go_sem, seval, aqC, hq.1, hq.2.2, k1, k2, k3, k4, k5, k6]))
      all_goals exact subH_app _ _
    · refine ⟨fun _ he => by simp at he, fun E k he hE => ?_⟩
      simp only [List.cons.injEq, AV.c.injEq, AV.g.injEq, Sc.p.injEq, and_true] at he
      obtain ⟨e1, e2⟩ := he
      obtain rfl := aqC_inj e2
      rw [hB.uniq hE e1]
  obtain ⟨v, h1, h2⟩ := this
  rw [h1, h2.2 D q rfl hB]
/-! ### what is asked -/
def bOk (n : Int) (h : Int) (q : Aq) : Bool := bMy n q && !(decide (q.k = 11) && (decide (h < 0) || decide (n ≤ h)))
def bMb (D : Bd) (q : Aq) : Bs :=
  if q.k = 9 then bRb D (bSp D.b.n q.a q.s) else if q.k = 10 then bWb D (bSp D.b.n q.a q.s) q.d else if q.k = 18 then { D.b with c := ckT D.b.c q.d.toInt }
  else if q.k = 20 ∧ ¬ q.s = 10 then { D.b with k := plWire D.b.k q.s q.lv } else D.b
def bMt (D : Bd) (q : Aq) : Pt :=
  if q.k = 9 then bRt D (bSp D.b.n q.a q.s) else if q.k = 10 then bWt D (bSp D.b.n q.a q.s) q.d else if q.k = 19 then (inputP D.t (toBy q.d)).1 else D.t
def bEn (b : Bs) (t : Pt) : Bs := { b with k := plWire b.k 10 (!decide (causeP t = 1)) }
def bDb (D : Bd) (h : Int) (q : Aq) : Bs := if bOk D.b.n h q = true then bEn (bMb D q) (bMt D q) else D.b
def bDt (D : Bd) (h : Int) (q : Aq) : Pt := if bOk D.b.n h q = true then bMt D q else D.t
def bDv (D : Bd) (h : Int) (q : Aq) : BitVec 64 := if bOk D.b.n h q = true then (if q.k = 9 then bRv D (bSp D.b.n q.a q.s) else if q.k = 11 then bLn D.b h else 0#64) else 0#64
theorem bEn_ok {b : Bs} (h : BsOk b) (t : Pt) : BsOk (bEn b t) := h.pk (plWire_ok h.k _ _) (plWire_n _ _ _)
/-- what a step of its own has beside -/
structure Loc (K : AH) (L : Nat) (c0 c1 c2 : List Sc) : Prop where
  h0 : hg K L = .own c0
  h1 : hg K (L + 1) = .own c1
  h2 : hg K (L + 2) = .own c2
  len : L + 3 ≤ K.length
theorem BI.far (h : BI H D) {j : Nat} (hj : H.length ≤ j) : j ≠ D.id ∧ j ≠ D.pid ∧ sid D.x ≠ some j ∧ sid D.y ≠ some j := by
  have a := h.lid
  have b := h.lpid
  refine ⟨by omega, by omega, fun e => ?_, fun e => ?_⟩
  · have := (bsx_lt h.pi.hx e).1; omega
  · have := (bsx_lt h.pi.hy e).1; omega
theorem Loc.of {c0 c1 c2 : List Sc} : Loc (H ++ [.own c0, .own c1, .own c2]) H.length c0 c1 c2 := ⟨by rw [hg_len]; rfl, by rw [hg_len_add]; rfl, by rw [hg_len_add]; rfl, by simp⟩
theorem Loc.step {c0 c1 c2 : List Sc} {K1 : AH} {D1 : Bd} (hB : BI H D) (h : BK (H ++ [.own c0, .own c1, .own c2]) K1 D D1) : Loc K1 H.length c0 c1 c2 := by
  have l := Loc.of (H := H) (c0 := c0) (c1 := c1) (c2 := c2)
  have hl := h.len
  have h0 := hB.far (j := H.length) (Nat.le_refl _)
  have h1 := hB.far (j := H.length + 1) (by omega)
  have h2 := hB.far (j := H.length + 2) (by omega)
  simp only [List.length_append, List.length_cons, List.length_nil] at hl
  refine ⟨?_, ?_, ?_, by omega⟩
  · rw [h.keep _ (by simp) h0.1 h0.2.1 h0.2.2.1 h0.2.2.2]; exact l.h0
  · rw [h.keep _ (by simp) h1.1 h1.2.1 h1.2.2.1 h1.2.2.2]; exact l.h1
  · rw [h.keep _ (by simp) h2.1 h2.2.1 h2.2.2.1 h2.2.2.2]; exact l.h2
theorem Loc.set2 {K : AH} {L : Nat} {c0 c1 c2 c : List Sc} (h : Loc K L c0 c1 c2) : Loc (K.set (L + 2) (.own c)) L c0 c1 c :=
  ⟨by rw [hg_set_ne' (by omega)]; exact h.h0, by rw [hg_set_ne' (by omega)]; exact h.h1, hg_set_same (by have := h.len; omega), by simpa using h.len⟩
theorem Loc.setI {K : AH} {L : Nat} {c0 c1 c2 : List Sc} (h : Loc K L c0 c1 c2) {i : Nat} {o : AObj} (hi : i < L) : Loc (K.set i o) L c0 c1 c2 :=
  ⟨by rw [hg_set_ne' (by omega)]; exact h.h0, by rw [hg_set_ne' (by omega)]; exact h.h1, by rw [hg_set_ne' (by omega)]; exact h.h2, by simpa using h.len⟩
/-- the end of what is asked -/
structure BFin (H K : AH) (D E : Bd) (c0 c2 : List Sc) : Prop where
  bi : BI K E
  bk : BK H K D E
  loc : Loc K H.length c0 (.u 0#64 :: .b false :: zMl) c2
theorem BFin.ul {K : AH} {E : Bd} {c0 c2 : List Sc} (h : BFin H K D E c0 c2) : s_uline [.c (.p E.pid 0 0)] K = some (.c (.b (!decide (causeP E.t = 1)))) := line_ok h.bi.pi
theorem BFin.pw {K : AH} {E : Bd} {c0 c2 : List Sc} (h : BFin H K D E c0 c2) : s_pwire [.c (.p E.id 20 0), .c (.i 10), .c (.b (!decide (causeP E.t = 1)))] K = some (.c (.b (plWis E.b.k 10)), K.set E.id (.own (busC E.pid (bEn E.b E.t)))) := by
  rw [s_pwire_eq h.bi.pk, h.bi.pkS]; rfl
theorem BFin.end {K : AH} {E : Bd} {c0 c2 : List Sc} (hB : BI H D) (h : BFin H K D E c0 c2) : BStep H ((K.set E.id (.own (busC E.pid (bEn E.b E.t)))).set (H.length + 1) (.own c2)) D (bEn E.b E.t) E.t := by
  have f := hB.far (j := H.length + 1) (by omega)
  have b1 := h.bi.set (bEn_ok h.bi.ok E.t)
  have k1 := h.bk.trans (h.bi.setK (bEn E.b E.t))
  have le : D.id < H.length := hB.lid
  have lp : D.pid < H.length := hB.lpid
  have e1 : H.length + 1 ≠ E.id := by rw [h.bk.id]; omega
  have e2 : H.length + 1 ≠ E.pid := by rw [h.bk.pid]; omega
  have hl := h.bi
  have ex : sid E.x ≠ some (H.length + 1) := fun e => by
    have := (bsx_lt hl.pi.hx e).2
    rw [h.loc.h1] at this
    simp at this
  have ey : sid E.y ≠ some (H.length + 1) := fun e => by
    have := (bsx_lt hl.pi.hy e).2
    rw [h.loc.h1] at this
    simp at this
  have b2 := b1.other (j := H.length + 1) (o := .own c2) e1 e2 ex ey
  have k2 := k1.other (j := H.length + 1) (o := .own c2) (by omega)
  refine ⟨E.x, E.y, ?_, ?_⟩
  · have : ({ D with b := bEn E.b E.t, t := E.t, x := E.x, y := E.y } : Bd) = { E with b := bEn E.b E.t } := by
      have a1 := h.bk.id
      have a2 := h.bk.pid
      cases D; cases E
      simp only at a1 a2
      subst a1 a2
      rfl
    rw [this]; exact b2
  · have : ({ D with b := bEn E.b E.t, t := E.t, x := E.x, y := E.y } : Bd) = { E with b := bEn E.b E.t } := by
      have a1 := h.bk.id
      have a2 := h.bk.pid
      cases D; cases E
      simp only at a1 a2
      subst a1 a2
      rfl
    rw [this]; exact k2
theorem BFin.set2 {K : AH} {E : Bd} {c0 c2 c : List Sc} (h : BFin H K D E c0 c2) (hB : BI H D) : BFin H (K.set (H.length + 2) (.own c)) D E c0 c := by
  have le : D.id < H.length := hB.lid
  have lp : D.pid < H.length := hB.lpid
  refine ⟨h.bi.other (by rw [h.bk.id]; omega) (by rw [h.bk.pid]; omega) (fun e => ?_) (fun e => ?_), h.bk.other (by omega), h.loc.set2⟩
  · have := (bsx_lt h.bi.pi.hx e).2
    rw [h.loc.h2] at this
    simp at this
  · have := (bsx_lt h.bi.pi.hy e).2
    rw [h.loc.h2] at this
    simp at this
end

/-! ## XBs5 -/
section
variable {H : AH} {D : Bd}

theorem BFin.all {K : AH} {E : Bd} {c0 c2 : List Sc} (hB : BI H D) (h : BFin H K D E c0 c2) : ∃ K3 w, hg K D.id = .own (busC D.pid E.b) ∧ (busC D.pid E.b).length = 88 ∧ s_uline [.c (.p D.pid 0 0)] K = some (.c (.b (!decide (causeP E.t = 1)))) ∧
    s_pwire [.c (.p D.id 20 0), .c (.i 10), .c (.b (!decide (causeP E.t = 1)))] K = some (.c (.b w), K3) ∧ hg K3 (H.length + 2) = .own c2 ∧ hg K3 (H.length + 1) = .own (.u 0#64 :: .b false :: zMl) ∧
    (∀ y, hg (K3.set (H.length + 1) y) (H.length + 1) = y) ∧ BStep H (K3.set (H.length + 1) (.own c2)) D (bEn E.b E.t) E.t ∧ H.length ≤ (K3.set (H.length + 1) (.own c2)).length ∧ nvw K (K3.set (H.length + 1) (.own c2)) := by
  have l3 := h.loc.setI (i := E.id) (o := .own (busC E.pid (bEn E.b E.t))) (by rw [h.bk.id]; exact hB.lid)
  have ll := l3.len
  refine ⟨_, _, by rw [← h.bk.id, ← h.bk.pid]; exact h.bi.ho, by rw [← h.bk.pid]; exact h.bi.l, by rw [← h.bk.pid]; exact h.ul, by rw [← h.bk.id]; exact h.pw, l3.h2, l3.h1, fun y => hg_set_same (by omega), h.end hB, ?_, nvw_trans (nvw_set fun _ => rfl) (nvw_set fun _ => rfl)⟩
  rw [List.length_set]; omega
theorem BFin.of {K1 : AH} {b : Bs} {t : Pt} {c0 c2 : List Sc} (hB : BI H D) (h : BStep (H ++ [.own c0, .own (.u 0#64 :: .b false :: zMl), .own c2]) K1 D b t) : ∃ E, E.b = b ∧ E.t = t ∧ BFin H K1 D E c0 c2 := by
  obtain ⟨x, y, h1, h2⟩ := h
  exact ⟨_, rfl, rfl, h1, h2.cut, Loc.step hB h2⟩
def q_bdo (args : List AV) (H : AH) (v : AV) (H1 : AH) : Prop :=
  (∀ h q, args = [.c .nilp, .c (.i h), .g (aqC q)] → v = .t [.g (anC 0#64 false), .c (.b false)] ∧ ∃ X, H1 = H ++ X) ∧
  ∀ D h q, args = [.c (.p D.id 0 0), .c (.i h), .g (aqC q)] → BI H D → v = .t [.g (anC (bDv D h q) false), .c (.b (bOk D.b.n h q))] ∧ BStep H H1 D (bDb D h q) (bDt D h q) ∧ nvw H H1
def s_bdo : List AV → AH → Option (AV × AH) := frS Try.prog [(11, .fq s_bmay), (28, .pu s_bfind), (27, .fp s_bread), (29, .fp s_bwrite), (9, .fq s_blines), (30, .fp s_ctick), (31, .fp s_uinput), (32, .fp s_pwire), (33, .fq s_uline)] 8 q_bdo
set_option maxRecDepth 100000 in
set_option maxHeartbeats 2000000 in
theorem ok_bdo : FpOk Try.prog 8 s_bdo := frS_ok hmix (TabOk.cons (e := .fq s_bmay) ok_bmay (TabOk.cons (e := .pu s_bfind) ok_bfind (TabOk.cons (e := .fp s_bread) ok_bread (TabOk.cons (e := .fp s_bwrite) ok_bwrite (TabOk.cons (e := .fq s_blines) ok_blines (TabOk.cons (e := .fp s_ctick) ok_ctick (TabOk.cons (e := .fp s_uinput) ok_uinput (TabOk.cons (e := .fp s_pwire) ok_pwire (TabOk.cons (e := .fq s_uline) ok_uline TabOk.nil))))))))) Try.func8 rfl Try.results8 Try.ntmps8 (by kernel_rfl) (by kernel_rfl)
theorem bdo_post {h : Int} {q : Aq} (hB : BI H D) {v : AV} {H1 : AH} (h1 : v = .t [.g (anC (bDv D h q) false), .c (.b (bOk D.b.n h q))]) (h2 : BStep H H1 D (bDb D h q) (bDt D h q)) (h3 : nvw H H1) : q_bdo [.c (.p D.id 0 0), .c (.i h), .g (aqC q)] H v H1 := by
  refine ⟨fun _ _ he => by simp at he, fun E k p he hE => ?_⟩
  simp only [List.cons.injEq, AV.c.injEq, AV.g.injEq, Sc.p.injEq, Sc.i.injEq, and_true] at he
  obtain ⟨e1, rfl, e2⟩ := he
  obtain rfl := aqC_inj e2
  obtain rfl := hB.uniq hE e1
  exact ⟨h1, h2, h3⟩
theorem bSp_d {n : Int} {a : BitVec 64} {s : Int} : (bSp n a s).d = 0 ∨ (bSp n a s).d = 1 ∨ (bSp n a s).d = 2 ∨ (bSp n a s).d = 3 := by
  unfold bSp
  repeat' split
  all_goals simp
theorem s_bdo_nil {h : Int} {q : Aq} (hq : askR q.r) : ∃ X, s_bdo [.c .nilp, .c (.i h), .g (aqC q)] H = some (.t [.g (anC 0#64 false), .c (.b false)], H ++ X) := by
  have : ∃ v H1, s_bdo [.c .nilp, .c (.i h), .g (aqC q)] H = some (v, H1) ∧ H.length ≤ H1.length ∧ q_bdo [.c .nilp, .c (.i h), .g (aqC q)] H v H1 := by
    have lr := hq.1
    have ro := hq.2.2
    have rt : q.r.take 10 = q.r := List.take_of_length_le (by omega)
    have p1 := fun H => s_bmay_nil (H := H) hq
    unfold s_bdo
    apply frS_ex (v := .t [.g (anC 0#64 false), .c (.b false)]) Try.func8 rfl Try.results8 Try.ntmps8 (by simp only [List.length_cons, List.length_nil]; decide)
    · intro _ _
      unfold aqC at p1 ⊢
      (try simp (config := { maxSteps := 10000000 }) only [go_sem, seval, lr, ro, rt, p1, anC]; repeat (simp (disch := omega) only [w64_d, ipos, ineg, dpos, dneg]; try simp (config := { maxSteps := 10000000 }) only [go_sem, seval, lr, ro, rt, p1, anC]))
      exact fin_same
    · simp
    · refine ⟨fun _ _ _ => ⟨rfl, _, rfl⟩, fun E k p he hE => ?_⟩
      simp at he
  obtain ⟨v, H1, h1, _, h2, _⟩ := this
  obtain ⟨rfl, X, rfl⟩ := h2 h q rfl
  exact ⟨X, h1⟩
theorem bfind_q {n : Int} {a : BitVec 64} {s : Int} : s_bfind [.c (.i n), .c (.u a), .c (.i s)] = some (.g (spC (bSp n a s))) := rfl
theorem s_bdo_ex (hB : BI H D) (hf : Few D.t) (h : Int) {q : Aq} (hq : askR q.r) : ∃ H1, s_bdo [.c (.p D.id 0 0), .c (.i h), .g (aqC q)] H = some (.t [.g (anC (bDv D h q) false), .c (.b (bOk D.b.n h q))], H1) ∧ H.length ≤ H1.length ∧ BStep H H1 D (bDb D h q) (bDt D h q) ∧ nvw H H1 := by
  have : ∃ v H1, s_bdo [.c (.p D.id 0 0), .c (.i h), .g (aqC q)] H = some (v, H1) ∧ H.length ≤ H1.length ∧ q_bdo [.c (.p D.id 0 0), .c (.i h), .g (aqC q)] H v H1 := by
    have lr := hq.1
    have ro := hq.2.2
    have rt : q.r.take 10 = q.r := List.take_of_length_le (by omega)
    have p1 := fun X => s_bmay_eq (hB.app X) hq
    have hoX : ∀ X, hg (H ++ X) D.id = .own (busC D.pid D.b) := fun X => (hB.app X).ho
    have ll := hB.l
    have d0 : ∀ b, (busC D.pid b).getD 0 .any = .p D.pid 0 0 := fun _ => rfl
    have d1 : (busC D.pid D.b).getD 1 .any = .i D.b.n := rfl
    have bf := bfind_q (n := D.b.n) (a := q.a) (s := q.s)
    cases hm : bMy D.b.n q
    · have eo : bOk D.b.n h q = false := by simp [bOk, hm]
      have ev : bDv D h q = 0#64 := by simp [bDv, eo]
      have eb : bDb D h q = D.b := by simp [bDb, eo]
      have et : bDt D h q = D.t := by simp [bDt, eo]
      unfold s_bdo
      apply frS_ex (v := .t [.g (anC 0#64 false), .c (.b false)]) Try.func8 rfl Try.results8 Try.ntmps8 (by simp only [List.length_cons, List.length_nil]; decide)
      · intro _ _
        simp only [hm] at p1
        unfold aqC at p1 ⊢
        (try simp (config := { maxSteps := 10000000 }) only [go_sem, seval, lr, ro, rt, p1, anC]; repeat (simp (disch := omega) only [w64_d, ipos, ineg, dpos, dneg]; try simp (config := { maxSteps := 10000000 }) only [go_sem, seval, lr, ro, rt, p1, anC]))
        exact fin_same
      · simp
      · exact bdo_post hB (by rw [ev, eo]) (by rw [eb, et]; exact ⟨D.x, D.y, hB.app _, BK.app⟩) (nvw_h rfl)
    · simp only [hm] at p1
      have kk : q.k = 9 ∨ q.k = 10 ∨ q.k = 11 ∨ q.k = 18 ∨ q.k = 19 ∨ q.k = 20 := by
        unfold bMy at hm
        split at hm
        · omega
        · simp at hm; omega
      have hA := hB.app [.own (aqC q), .own (.u 0#64 :: .b false :: zMl), .own (.u 0#64 :: .b false :: zMl)]
      rcases kk with k | k | k | k | k | k
      · have eo : bOk D.b.n h q = true := by simp [bOk, hm, k]
        have hd : (bSp D.b.n q.a q.s).d = 1 ∨ (bSp D.b.n q.a q.s).d = 2 ∨ (bSp D.b.n q.a q.s).d = 3 := by
          rcases bSp_d (n := D.b.n) (a := q.a) (s := q.s) with e | e | e | e
          · simp [bMy, k, e] at hm
          all_goals simp [e]
        obtain ⟨K1, e1, _, st, nv1⟩ := s_bread_ex hA hf (bSp D.b.n q.a q.s) hd
        obtain ⟨E, eB, eT, f⟩ := BFin.of hB st
        have g2 := f.loc.h2
        have f := f.set2 hB (c := .u (bRv D (bSp D.b.n q.a q.s)) :: .b false :: zMl)
        have ev : bDv D h q = bRv D (bSp D.b.n q.a q.s) := by simp [bDv, eo, k]
        have eb : bDb D h q = bEn E.b E.t := by simp [bDb, bMb, bMt, eo, k, eB, eT]
        have et : bDt D h q = E.t := by simp [bDt, bMt, eo, k, eT]
        obtain ⟨K2, hK⟩ : ∃ K, K1.set (H.length + 2) (.own (.u (bRv D (bSp D.b.n q.a q.s)) :: .b false :: zMl)) = K := ⟨_, rfl⟩
        rw [hK] at f
        obtain ⟨K3, w, o, lo, ul, pw, o2, o1, s1, fin, fl, nv3⟩ := f.all hB
        unfold s_bdo
        apply frS_ex (v := .t [.g (anC (bRv D (bSp D.b.n q.a q.s)) false), .c (.b true)]) Try.func8 rfl Try.results8 Try.ntmps8 (by simp only [List.length_cons, List.length_nil]; decide)
        · intro _ _
          simp only [aqC, k] at p1 e1
          (try simp (config := { maxSteps := 10000000 }) only [go_sem, seval, aqC, lr, ro, rt, p1, anC, k, hoX, ll, d0, d1, bf, e1, g2, hK, o, lo, ul, pw, o2, o1, s1]; repeat (simp (disch := omega) only [w64_d, ipos, ineg, dpos, dneg]; try simp (config := { maxSteps := 10000000 }) only [go_sem, seval, aqC, lr, ro, rt, p1, anC, k, hoX, ll, d0, d1, bf, e1, g2, hK, o, lo, ul, pw, o2, o1, s1]))
          (repeat' first | apply And.intro | (intro _; kernel_rfl) | kernel_rfl)
          exact fin_same
        · exact fl
        · exact bdo_post hB (by rw [ev, eo]) (by rw [eb, et]; exact fin) (nvw_trans (nvw_trans (nvw_trans (nvw_h rfl) nv1) (by rw [← hK]; exact nvw_set fun _ => rfl)) nv3)
      · have eo : bOk D.b.n h q = true := by simp [bOk, hm, k]
        have hd : (bSp D.b.n q.a q.s).d = 1 ∨ (bSp D.b.n q.a q.s).d = 2 ∨ (bSp D.b.n q.a q.s).d = 3 := by
          rcases bSp_d (n := D.b.n) (a := q.a) (s := q.s) with e | e | e | e
          · simp [bMy, k, e] at hm
          all_goals simp [e]
        obtain ⟨K1, e1, _, st, nv1⟩ := s_bwrite_ex hA hf (bSp D.b.n q.a q.s) hd q.d
        obtain ⟨E, eB, eT, f⟩ := BFin.of hB st
        have ev : bDv D h q = 0#64 := by simp [bDv, eo, k]
        have eb : bDb D h q = bEn E.b E.t := by simp [bDb, bMb, bMt, eo, k, eB, eT]
        have et : bDt D h q = E.t := by simp [bDt, bMt, eo, k, eT]
        obtain ⟨K3, w, o, lo, ul, pw, o2, o1, s1, fin, fl, nv3⟩ := f.all hB
        unfold s_bdo
        apply frS_ex (v := .t [.g (anC (0#64) false), .c (.b true)]) Try.func8 rfl Try.results8 Try.ntmps8 (by simp only [List.length_cons, List.length_nil]; decide)
        · intro _ _
          simp only [aqC, k] at p1 e1
          (try simp (config := { maxSteps := 10000000 }) only [go_sem, seval, aqC, lr, ro, rt, p1, anC, k, hoX, ll, d0, d1, bf, e1, o, lo, ul, pw, o2, o1, s1]; repeat (simp (disch := omega) only [w64_d, ipos, ineg, dpos, dneg]; try simp (config := { maxSteps := 10000000 }) only [go_sem, seval, aqC, lr, ro, rt, p1, anC, k, hoX, ll, d0, d1, bf, e1, o, lo, ul, pw, o2, o1, s1]))
          (repeat' first | apply And.intro | (intro _; kernel_rfl) | kernel_rfl)
          exact fin_same
        · exact fl
        · exact bdo_post hB (by rw [ev, eo]) (by rw [eb, et]; exact fin) (nvw_trans (nvw_trans (nvw_h rfl) nv1) nv3)
      · by_cases h0 : h < 0
        · have eo : bOk D.b.n h q = false := by simp [bOk, hm, k, h0]
          have ev : bDv D h q = 0#64 := by simp [bDv, eo]
          have eb : bDb D h q = D.b := by simp [bDb, eo]
          have et : bDt D h q = D.t := by simp [bDt, eo]
          unfold s_bdo
          apply frS_ex (v := .t [.g (anC 0#64 false), .c (.b false)]) Try.func8 rfl Try.results8 Try.ntmps8 (by simp only [List.length_cons, List.length_nil]; decide)
          · intro _ _
            simp only [aqC, k] at p1
            (try simp (config := { maxSteps := 10000000 }) only [go_sem, seval, aqC, lr, ro, rt, p1, anC, k, h0]; repeat (simp (disch := omega) only [w64_d, ipos, ineg, dpos, dneg]; try simp (config := { maxSteps := 10000000 }) only [go_sem, seval, aqC, lr, ro, rt, p1, anC, k, h0]))
            exact fin_same
          · simp
          · exact bdo_post hB (by rw [ev, eo]) (by rw [eb, et]; exact ⟨D.x, D.y, hB.app _, BK.app⟩) (nvw_h rfl)
        by_cases h1 : D.b.n ≤ h
        · have eo : bOk D.b.n h q = false := by simp [bOk, hm, k, h1]
          have ev : bDv D h q = 0#64 := by simp [bDv, eo]
          have eb : bDb D h q = D.b := by simp [bDb, eo]
          have et : bDt D h q = D.t := by simp [bDt, eo]
          unfold s_bdo
          apply frS_ex (v := .t [.g (anC 0#64 false), .c (.b false)]) Try.func8 rfl Try.results8 Try.ntmps8 (by simp only [List.length_cons, List.length_nil]; decide)
          · intro _ _
            simp only [aqC, k] at p1
            (try simp (config := { maxSteps := 10000000 }) only [go_sem, seval, aqC, lr, ro, rt, p1, anC, k, h0, h1, hoX, ll, d1]; repeat (simp (disch := omega) only [w64_d, ipos, ineg, dpos, dneg]; try simp (config := { maxSteps := 10000000 }) only [go_sem, seval, aqC, lr, ro, rt, p1, anC, k, h0, h1, hoX, ll, d1]))
            exact fin_same
          · simp
          · exact bdo_post hB (by rw [ev, eo]) (by rw [eb, et]; exact ⟨D.x, D.y, hB.app _, BK.app⟩) (nvw_h rfl)
        have eo : bOk D.b.n h q = true := by simp [bOk, hm, h0, h1]
        have bl := fun X => s_blines_eq (hB.app X) h
        have f : BFin H (H ++ [.own (aqC q), .own (.u 0#64 :: .b false :: zMl), .own (.u (bLn D.b h) :: .b false :: zMl)]) D D (aqC q) (.u (bLn D.b h) :: .b false :: zMl) := ⟨hB.app _, BK.app, Loc.of⟩
        have ev : bDv D h q = bLn D.b h := by simp [bDv, eo, k]
        have eb : bDb D h q = bEn D.b D.t := by simp [bDb, bMb, bMt, eo, k]
        have et : bDt D h q = D.t := by simp [bDt, bMt, eo, k]
        obtain ⟨K2, hK⟩ : ∃ K, H ++ [.own (aqC q), .own (.u 0#64 :: .b false :: zMl), .own (.u (bLn D.b h) :: .b false :: zMl)] = K := ⟨_, rfl⟩
        rw [hK] at f
        obtain ⟨K3, w, o, lo, ul, pw, o2, o1, s1, fin, fl, nv3⟩ := f.all hB
        unfold s_bdo
        apply frS_ex (v := .t [.g (anC (bLn D.b h) false), .c (.b true)]) Try.func8 rfl Try.results8 Try.ntmps8 (by simp only [List.length_cons, List.length_nil]; decide)
        · intro _ _
          simp only [aqC, k] at p1 hK
          (try simp (config := { maxSteps := 10000000 }) only [go_sem, seval, aqC, lr, ro, rt, p1, anC, k, hoX, ll, d0, d1, bf, h0, h1, bl, hK, o, lo, ul, pw, o2, o1, s1]; repeat (simp (disch := omega) only [w64_d, ipos, ineg, dpos, dneg]; try simp (config := { maxSteps := 10000000 }) only [go_sem, seval, aqC, lr, ro, rt, p1, anC, k, hoX, ll, d0, d1, bf, h0, h1, bl, hK, o, lo, ul, pw, o2, o1, s1]))
          (repeat' first | apply And.intro | (intro _; kernel_rfl) | kernel_rfl)
          exact fin_same
        · exact fl
        · exact bdo_post hB (by rw [ev, eo]) (by rw [eb, et]; exact fin) (nvw_trans (by rw [← hK]; exact nvw_h rfl) nv3)
      · have eo : bOk D.b.n h q = true := by simp [bOk, hm, k]
        have ct := s_ctick_eq hA.ck (n := q.d.toInt)
        rw [hA.ckS] at ct
        have st : BStep (H ++ [.own (aqC q), .own (.u 0#64 :: .b false :: zMl), .own (.u 0#64 :: .b false :: zMl)]) _ D { D.b with c := ckT D.b.c q.d.toInt } D.t := ⟨D.x, D.y, hA.set (hB.ok.ck (ckT_ok hB.ok.c _) (ckT_n _ _)), hA.setK _⟩
        obtain ⟨K1, hK⟩ : ∃ K : AH, (H ++ [.own (aqC q), .own (.u 0#64 :: .b false :: zMl), .own (.u 0#64 :: .b false :: zMl)] : AH).set D.id (.own (busC D.pid { D.b with c := ckT D.b.c q.d.toInt })) = K := ⟨_, rfl⟩
        rw [hK] at st ct
        obtain ⟨E, eB, eT, f⟩ := BFin.of hB st
        have ev : bDv D h q = 0#64 := by simp [bDv, eo, k]
        have eb : bDb D h q = bEn E.b E.t := by simp [bDb, bMb, bMt, eo, k, eB, eT]
        have et : bDt D h q = E.t := by simp [bDt, bMt, eo, k, eT]
        obtain ⟨K3, w, o, lo, ul, pw, o2, o1, s1, fin, fl, nv3⟩ := f.all hB
        unfold s_bdo
        apply frS_ex (v := .t [.g (anC (0#64) false), .c (.b true)]) Try.func8 rfl Try.results8 Try.ntmps8 (by simp only [List.length_cons, List.length_nil]; decide)
        · intro _ _
          simp only [aqC, k] at p1 ct
          (try simp (config := { maxSteps := 10000000 }) only [go_sem, seval, aqC, lr, ro, rt, p1, anC, k, hoX, ll, d0, d1, bf, ct, o, lo, ul, pw, o2, o1, s1]; repeat (simp (disch := omega) only [w64_d, ipos, ineg, dpos, dneg]; try simp (config := { maxSteps := 10000000 }) only [go_sem, seval, aqC, lr, ro, rt, p1, anC, k, hoX, ll, d0, d1, bf, ct, o, lo, ul, pw, o2, o1, s1]))
          (repeat' first | apply And.intro | (intro _; kernel_rfl) | kernel_rfl)
          exact fin_same
        · exact fl
        · exact bdo_post hB (by rw [ev, eo]) (by rw [eb, et]; exact fin) (nvw_trans (by rw [← hK]; exact nvw_trans (nvw_h rfl) (nvw_set fun _ => rfl)) nv3)
      · have eo : bOk D.b.n h q = true := by simp [bOk, hm, k]
        obtain ⟨K1, x', u1, u2, u3⟩ := input_ok hA.pi (toBy q.d) hf.1
        obtain ⟨g1, g2⟩ := hA.port u2 u3
        have st : BStep (H ++ [.own (aqC q), .own (.u 0#64 :: .b false :: zMl), .own (.u 0#64 :: .b false :: zMl)]) K1 D D.b (inputP D.t (toBy q.d)).1 := ⟨x', D.y, g1, g2⟩
        have tb : IntKind.u8.wrap (q.d.toNat : Int) = toBy q.d := rfl
        obtain ⟨E, eB, eT, f⟩ := BFin.of hB st
        have ev : bDv D h q = 0#64 := by simp [bDv, eo, k]
        have eb : bDb D h q = bEn E.b E.t := by simp [bDb, bMb, bMt, eo, k, eB, eT]
        have et : bDt D h q = E.t := by simp [bDt, bMt, eo, k, eT]
        obtain ⟨K3, w, o, lo, ul, pw, o2, o1, s1, fin, fl, nv3⟩ := f.all hB
        unfold s_bdo
        apply frS_ex (v := .t [.g (anC (0#64) false), .c (.b true)]) Try.func8 rfl Try.results8 Try.ntmps8 (by simp only [List.length_cons, List.length_nil]; decide)
        · intro _ _
          simp only [aqC, k] at p1 u1
          (try simp (config := { maxSteps := 10000000 }) only [go_sem, seval, aqC, lr, ro, rt, p1, anC, k, hoX, ll, d0, d1, bf, u1, tb, o, lo, ul, pw, o2, o1, s1]; repeat (simp (disch := omega) only [w64_d, ipos, ineg, dpos, dneg]; try simp (config := { maxSteps := 10000000 }) only [go_sem, seval, aqC, lr, ro, rt, p1, anC, k, hoX, ll, d0, d1, bf, u1, tb, o, lo, ul, pw, o2, o1, s1]))
          (repeat' first | apply And.intro | (intro _; kernel_rfl) | kernel_rfl)
          exact fin_same
        · exact fl
        · exact bdo_post hB (by rw [ev, eo]) (by rw [eb, et]; exact fin) (nvw_trans (nvw_trans (nvw_h rfl) (nv_uinput u1)) nv3)
      · have eo : bOk D.b.n h q = true := by simp [bOk, hm, k]
        have ev : bDv D h q = 0#64 := by simp [bDv, eo, k]
        rcases Classical.propComplete (q.s = 10) with s10 | s10
        · have f : BFin H (H ++ [.own (aqC q), .own (.u 0#64 :: .b false :: zMl), .own (.u 0#64 :: .b false :: zMl)]) D D (aqC q) (.u 0#64 :: .b false :: zMl) := ⟨hB.app _, BK.app, Loc.of⟩
          have eb : bDb D h q = bEn D.b D.t := by simp [bDb, bMb, bMt, eo, k, s10]
          have et : bDt D h q = D.t := by simp [bDt, bMt, eo, k]
          obtain ⟨K3, w, o, lo, ul, pw, o2, o1, s1, fin, fl, nv3⟩ := f.all hB
          unfold s_bdo
          apply frS_ex (v := .t [.g (anC (0#64) false), .c (.b true)]) Try.func8 rfl Try.results8 Try.ntmps8 (by simp only [List.length_cons, List.length_nil]; decide)
          · intro _ _
            simp only [aqC, k] at p1 ul pw
            (try simp (config := { maxSteps := 10000000 }) only [go_sem, seval, aqC, lr, ro, rt, p1, anC, k, hoX, ll, d0, d1, bf, s10, o, lo, ul, pw, o2, o1, s1]; repeat (simp (disch := omega) only [w64_d, ipos, ineg, dpos, dneg]; try simp (config := { maxSteps := 10000000 }) only [go_sem, seval, aqC, lr, ro, rt, p1, anC, k, hoX, ll, d0, d1, bf, s10, o, lo, ul, pw, o2, o1, s1]))
            (repeat' first | apply And.intro | (intro _; kernel_rfl) | kernel_rfl)
            exact fin_same
          · exact fl
          · exact bdo_post hB (by rw [ev, eo]) (by rw [eb, et]; exact fin) (nvw_trans (nvw_h rfl) nv3)
        · have wr := s_pwire_eq hA.pk (s := q.s) (on := q.lv)
          rw [hA.pkS] at wr
          have st : BStep (H ++ [.own (aqC q), .own (.u 0#64 :: .b false :: zMl), .own (.u 0#64 :: .b false :: zMl)]) _ D { D.b with k := plWire D.b.k q.s q.lv } D.t := ⟨D.x, D.y, hA.set (hB.ok.pk (plWire_ok hB.ok.k _ _) (plWire_n _ _ _)), hA.setK _⟩
          obtain ⟨K1, hK⟩ : ∃ K : AH, (H ++ [.own (aqC q), .own (.u 0#64 :: .b false :: zMl), .own (.u 0#64 :: .b false :: zMl)] : AH).set D.id (.own (busC D.pid { D.b with k := plWire D.b.k q.s q.lv })) = K := ⟨_, rfl⟩
          rw [hK] at st wr
          obtain ⟨E, eB, eT, f⟩ := BFin.of hB st
          have eb : bDb D h q = bEn E.b E.t := by simp [bDb, bMb, bMt, eo, k, eB, eT, s10]
          have et : bDt D h q = E.t := by simp [bDt, bMt, eo, k, eT]
          obtain ⟨K3, w, o, lo, ul, pw, o2, o1, s1, fin, fl, nv3⟩ := f.all hB
          unfold s_bdo
          apply frS_ex (v := .t [.g (anC (0#64) false), .c (.b true)]) Try.func8 rfl Try.results8 Try.ntmps8 (by simp only [List.length_cons, List.length_nil]; decide)
          · intro _ _
            simp only [aqC, k] at p1 wr
            (try simp (config := { maxSteps := 10000000 }) only [go_sem, seval, aqC, lr, ro, rt, p1, anC, k, hoX, ll, d0, d1, bf, s10, wr, o, lo, ul, pw, o2, o1, s1]; repeat (simp (disch := omega) only [w64_d, ipos, ineg, dpos, dneg]; try simp (config := { maxSteps := 10000000 }) only [go_sem, seval, aqC, lr, ro, rt, p1, anC, k, hoX, ll, d0, d1, bf, s10, wr, o, lo, ul, pw, o2, o1, s1]))
            (repeat' first | apply And.intro | (intro _; kernel_rfl) | kernel_rfl)
            exact fin_same
          · exact fl
          · exact bdo_post hB (by rw [ev, eo]) (by rw [eb, et]; exact fin) (nvw_trans (by rw [← hK]; exact nvw_trans (nvw_h rfl) (nvw_set fun _ => rfl)) nv3)
  obtain ⟨v, H1, h1, h2, h3⟩ := this
  obtain ⟨rfl, h4⟩ := h3.2 D h q rfl hB
  exact ⟨H1, h1, h2, h4⟩
end

end
end Go.Proofs.Ytfddaaplnnlfoaa
