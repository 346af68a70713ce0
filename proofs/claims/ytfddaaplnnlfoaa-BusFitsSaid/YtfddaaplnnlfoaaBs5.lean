/- Layer 18: a bus: what is asked, done: contract. -/
import Derived.Test.YtfddaaplnnlfoaaBs4
namespace Go.Proofs.Ytfddaaplnnlfoaa
open Go.Am
set_option linter.unusedSimpArgs false
set_option linter.unusedVariables false
noncomputable section
variable {H : AH} {D : Bd}

theorem BFin.all {K : AH} {E : Bd} {c0 c2 : List Sc} (hB : BI H D) (h : BFin H K D E c0 c2) : ∃ K3 w, hg K D.id = .own (busC D.pid E.b) ∧ (busC D.pid E.b).length = 88 ∧ s_uline [.c (.p D.pid 0 0)] K = some (.c (.b (!decide (causeP E.t = 1)))) ∧
    s_pwire [.c (.p D.id 20 0), .c (.i 10), .c (.b (!decide (causeP E.t = 1)))] K = some (.c (.b w), K3) ∧ hg K3 (H.length + 2) = .own c2 ∧ hg K3 (H.length + 1) = .own (.u 0#64 :: .b false :: zMl) ∧
    (∀ y, hg (K3.set (H.length + 1) y) (H.length + 1) = y) ∧ BStep H (K3.set (H.length + 1) (.own c2)) D (bEn E.b E.t) E.t ∧ H.length ≤ (K3.set (H.length + 1) (.own c2)).length := by
  have l3 := h.loc.setI (i := E.id) (o := .own (busC E.pid (bEn E.b E.t))) (by rw [h.bk.id]; exact hB.lid)
  have ll := l3.len
  refine ⟨_, _, by rw [← h.bk.id, ← h.bk.pid]; exact h.bi.ho, by rw [← h.bk.pid]; exact h.bi.l, by rw [← h.bk.pid]; exact h.ul, by rw [← h.bk.id]; exact h.pw, l3.h2, l3.h1, fun y => hg_set_same (by omega), h.end hB, ?_⟩
  rw [List.length_set]; omega
theorem BFin.of {K1 : AH} {b : Bs} {t : Pt} {c0 c2 : List Sc} (hB : BI H D) (h : BStep (H ++ [.own c0, .own (.u 0#64 :: .b false :: zMl), .own c2]) K1 D b t) : ∃ E, E.b = b ∧ E.t = t ∧ BFin H K1 D E c0 c2 := by
  obtain ⟨x, y, h1, h2⟩ := h
  exact ⟨_, rfl, rfl, h1, h2.cut, Loc.step hB h2⟩
def q_bdo (args : List AV) (H : AH) (v : AV) (H1 : AH) : Prop :=
  (∀ h q, args = [.c .nilp, .c (.i h), .g (aqC q)] → v = .t [.g (anC 0#64 false), .c (.b false)] ∧ ∃ X, H1 = H ++ X) ∧
  ∀ D h q, args = [.c (.p D.id 0 0), .c (.i h), .g (aqC q)] → BI H D → v = .t [.g (anC (bDv D h q) false), .c (.b (bOk D.b.n h q))] ∧ BStep H H1 D (bDb D h q) (bDt D h q)
def s_bdo : List AV → AH → Option (AV × AH) := frS Try.prog [(11, .fq s_bmay), (28, .pu s_bfind), (27, .fp s_bread), (29, .fp s_bwrite), (9, .fq s_blines), (30, .fp s_ctick), (31, .fp s_uinput), (32, .fp s_pwire), (33, .fq s_uline)] 8 q_bdo
set_option maxRecDepth 100000 in
set_option maxHeartbeats 2000000 in
theorem ok_bdo : FpOk Try.prog 8 s_bdo := frS_ok hmix (TabOk.cons (e := .fq s_bmay) ok_bmay (TabOk.cons (e := .pu s_bfind) ok_bfind (TabOk.cons (e := .fp s_bread) ok_bread (TabOk.cons (e := .fp s_bwrite) ok_bwrite (TabOk.cons (e := .fq s_blines) ok_blines (TabOk.cons (e := .fp s_ctick) ok_ctick (TabOk.cons (e := .fp s_uinput) ok_uinput (TabOk.cons (e := .fp s_pwire) ok_pwire (TabOk.cons (e := .fq s_uline) ok_uline TabOk.nil))))))))) Try.func8 rfl Try.results8 Try.ntmps8 (by kernel_rfl) (by kernel_rfl)
theorem bdo_post {h : Int} {q : Aq} (hB : BI H D) {v : AV} {H1 : AH} (h1 : v = .t [.g (anC (bDv D h q) false), .c (.b (bOk D.b.n h q))]) (h2 : BStep H H1 D (bDb D h q) (bDt D h q)) : q_bdo [.c (.p D.id 0 0), .c (.i h), .g (aqC q)] H v H1 := by
  refine ⟨fun _ _ he => by simp at he, fun E k p he hE => ?_⟩
  simp only [List.cons.injEq, AV.c.injEq, AV.g.injEq, Sc.p.injEq, Sc.i.injEq, and_true] at he
  obtain ⟨e1, rfl, e2⟩ := he
  obtain rfl := aqC_inj e2
  obtain rfl := hB.uniq hE e1
  exact ⟨h1, h2⟩
theorem bSp_d {n : Int} {a : BitVec 64} {s : Int} : (bSp n a s).d = 0 ∨ (bSp n a s).d = 1 ∨ (bSp n a s).d = 2 ∨ (bSp n a s).d = 3 := by
  unfold bSp
  repeat' split
  all_goals simp
theorem s_bdo_nil {h : Int} {q : Aq} (hq : askR q.r) : ∃ X, s_bdo [.c .nilp, .c (.i h), .g (aqC q)] H = some (.t [.g (anC 0#64 false), .c (.b false)], H ++ X) := by
  have : ∃ v H1, s_bdo [.c .nilp, .c (.i h), .g (aqC q)] H = some (v, H1) ∧ H.length ≤ H1.length ∧ q_bdo [.c .nilp, .c (.i h), .g (aqC q)] H v H1 := by
    have lr := hq.1
    have ro := hq.2.2
    have rt : q.r.take 10 = q.r := List.take_of_length_le (by omega)
    have p1 := fun H => s_bmay_nil (H := H) hq
    unfold s_bdo
    apply frS_ex (v := .t [.g (anC 0#64 false), .c (.b false)]) Try.func8 rfl Try.results8 Try.ntmps8 (by simp only [List.length_cons, List.length_nil]; decide)
    · intro _ _
      unfold aqC at p1 ⊢
      (try simp (config := { maxSteps := 10000000 }) only [go_sem, seval, lr, ro, rt, p1, anC]; repeat (simp (disch := omega) only [w64_d, ipos, ineg, dpos, dneg]; try simp (config := { maxSteps := 10000000 }) only [go_sem, seval, lr, ro, rt, p1, anC]))
      exact fin_same
    · simp
    · refine ⟨fun _ _ _ => ⟨rfl, _, rfl⟩, fun E k p he hE => ?_⟩
      simp at he
  obtain ⟨v, H1, h1, _, h2, _⟩ := this
  obtain ⟨rfl, X, rfl⟩ := h2 h q rfl
  exact ⟨X, h1⟩
theorem bfind_q {n : Int} {a : BitVec 64} {s : Int} : s_bfind [.c (.i n), .c (.u a), .c (.i s)] = some (.g (spC (bSp n a s))) := rfl
theorem s_bdo_ex (hB : BI H D) (hf : Few D.t) (h : Int) {q : Aq} (hq : askR q.r) : ∃ H1, s_bdo [.c (.p D.id 0 0), .c (.i h), .g (aqC q)] H = some (.t [.g (anC (bDv D h q) false), .c (.b (bOk D.b.n h q))], H1) ∧ H.length ≤ H1.length ∧ BStep H H1 D (bDb D h q) (bDt D h q) := by
  have : ∃ v H1, s_bdo [.c (.p D.id 0 0), .c (.i h), .g (aqC q)] H = some (v, H1) ∧ H.length ≤ H1.length ∧ q_bdo [.c (.p D.id 0 0), .c (.i h), .g (aqC q)] H v H1 := by
    have lr := hq.1
    have ro := hq.2.2
    have rt : q.r.take 10 = q.r := List.take_of_length_le (by omega)
    have p1 := fun X => s_bmay_eq (hB.app X) hq
    have hoX : ∀ X, hg (H ++ X) D.id = .own (busC D.pid D.b) := fun X => (hB.app X).ho
    have ll := hB.l
    have d0 : ∀ b, (busC D.pid b).getD 0 .any = .p D.pid 0 0 := fun _ => rfl
    have d1 : (busC D.pid D.b).getD 1 .any = .i D.b.n := rfl
    have bf := bfind_q (n := D.b.n) (a := q.a) (s := q.s)
    cases hm : bMy D.b.n q
    · have eo : bOk D.b.n h q = false := by simp [bOk, hm]
      have ev : bDv D h q = 0#64 := by simp [bDv, eo]
      have eb : bDb D h q = D.b := by simp [bDb, eo]
      have et : bDt D h q = D.t := by simp [bDt, eo]
      unfold s_bdo
      apply frS_ex (v := .t [.g (anC 0#64 false), .c (.b false)]) Try.func8 rfl Try.results8 Try.ntmps8 (by simp only [List.length_cons, List.length_nil]; decide)
      · intro _ _
        simp only [hm] at p1
        unfold aqC at p1 ⊢
        (try simp (config := { maxSteps := 10000000 }) only [go_sem, seval, lr, ro, rt, p1, anC]; repeat (simp (disch := omega) only [w64_d, ipos, ineg, dpos, dneg]; try simp (config := { maxSteps := 10000000 }) only [go_sem, seval, lr, ro, rt, p1, anC]))
        exact fin_same
      · simp
      · exact bdo_post hB (by rw [ev, eo]) (by rw [eb, et]; exact ⟨D.x, D.y, hB.app _, BK.app⟩)
    · simp only [hm] at p1
      have kk : q.k = 9 ∨ q.k = 10 ∨ q.k = 11 ∨ q.k = 18 ∨ q.k = 19 ∨ q.k = 20 := by
        unfold bMy at hm
        split at hm
        · omega
        · simp at hm; omega
      have hA := hB.app [.own (aqC q), .own (.u 0#64 :: .b false :: zMl), .own (.u 0#64 :: .b false :: zMl)]
      rcases kk with k | k | k | k | k | k
      · have eo : bOk D.b.n h q = true := by simp [bOk, hm, k]
        have hd : (bSp D.b.n q.a q.s).d = 1 ∨ (bSp D.b.n q.a q.s).d = 2 ∨ (bSp D.b.n q.a q.s).d = 3 := by
          rcases bSp_d (n := D.b.n) (a := q.a) (s := q.s) with e | e | e | e
          · simp [bMy, k, e] at hm
          all_goals simp [e]
        obtain ⟨K1, e1, _, st⟩ := s_bread_ex hA hf (bSp D.b.n q.a q.s) hd
        obtain ⟨E, eB, eT, f⟩ := BFin.of hB st
        have g2 := f.loc.h2
        have f := f.set2 hB (c := .u (bRv D (bSp D.b.n q.a q.s)) :: .b false :: zMl)
        have ev : bDv D h q = bRv D (bSp D.b.n q.a q.s) := by simp [bDv, eo, k]
        have eb : bDb D h q = bEn E.b E.t := by simp [bDb, bMb, bMt, eo, k, eB, eT]
        have et : bDt D h q = E.t := by simp [bDt, bMt, eo, k, eT]
        obtain ⟨K2, hK⟩ : ∃ K, K1.set (H.length + 2) (.own (.u (bRv D (bSp D.b.n q.a q.s)) :: .b false :: zMl)) = K := ⟨_, rfl⟩
        rw [hK] at f
        obtain ⟨K3, w, o, lo, ul, pw, o2, o1, s1, fin, fl⟩ := f.all hB
        unfold s_bdo
        apply frS_ex (v := .t [.g (anC (bRv D (bSp D.b.n q.a q.s)) false), .c (.b true)]) Try.func8 rfl Try.results8 Try.ntmps8 (by simp only [List.length_cons, List.length_nil]; decide)
        · intro _ _
          simp only [aqC, k] at p1 e1
          (try simp (config := { maxSteps := 10000000 }) only [go_sem, seval, aqC, lr, ro, rt, p1, anC, k, hoX, ll, d0, d1, bf, e1, g2, hK, o, lo, ul, pw, o2, o1, s1]; repeat (simp (disch := omega) only [w64_d, ipos, ineg, dpos, dneg]; try simp (config := { maxSteps := 10000000 }) only [go_sem, seval, aqC, lr, ro, rt, p1, anC, k, hoX, ll, d0, d1, bf, e1, g2, hK, o, lo, ul, pw, o2, o1, s1]))
          (repeat' first | apply And.intro | (intro _; kernel_rfl) | kernel_rfl)
          exact fin_same
        · exact fl
        · exact bdo_post hB (by rw [ev, eo]) (by rw [eb, et]; exact fin)
      · have eo : bOk D.b.n h q = true := by simp [bOk, hm, k]
        have hd : (bSp D.b.n q.a q.s).d = 1 ∨ (bSp D.b.n q.a q.s).d = 2 ∨ (bSp D.b.n q.a q.s).d = 3 := by
          rcases bSp_d (n := D.b.n) (a := q.a) (s := q.s) with e | e | e | e
          · simp [bMy, k, e] at hm
          all_goals simp [e]
        obtain ⟨K1, e1, _, st⟩ := s_bwrite_ex hA hf (bSp D.b.n q.a q.s) hd q.d
        obtain ⟨E, eB, eT, f⟩ := BFin.of hB st
        have ev : bDv D h q = 0#64 := by simp [bDv, eo, k]
        have eb : bDb D h q = bEn E.b E.t := by simp [bDb, bMb, bMt, eo, k, eB, eT]
        have et : bDt D h q = E.t := by simp [bDt, bMt, eo, k, eT]
        obtain ⟨K3, w, o, lo, ul, pw, o2, o1, s1, fin, fl⟩ := f.all hB
        unfold s_bdo
        apply frS_ex (v := .t [.g (anC (0#64) false), .c (.b true)]) Try.func8 rfl Try.results8 Try.ntmps8 (by simp only [List.length_cons, List.length_nil]; decide)
        · intro _ _
          simp only [aqC, k] at p1 e1
          (try simp (config := { maxSteps := 10000000 }) only [go_sem, seval, aqC, lr, ro, rt, p1, anC, k, hoX, ll, d0, d1, bf, e1, o, lo, ul, pw, o2, o1, s1]; repeat (simp (disch := omega) only [w64_d, ipos, ineg, dpos, dneg]; try simp (config := { maxSteps := 10000000 }) only [go_sem, seval, aqC, lr, ro, rt, p1, anC, k, hoX, ll, d0, d1, bf, e1, o, lo, ul, pw, o2, o1, s1]))
          (repeat' first | apply And.intro | (intro _; kernel_rfl) | kernel_rfl)
          exact fin_same
        · exact fl
        · exact bdo_post hB (by rw [ev, eo]) (by rw [eb, et]; exact fin)
      · by_cases h0 : h < 0
        · have eo : bOk D.b.n h q = false := by simp [bOk, hm, k, h0]
          have ev : bDv D h q = 0#64 := by simp [bDv, eo]
          have eb : bDb D h q = D.b := by simp [bDb, eo]
          have et : bDt D h q = D.t := by simp [bDt, eo]
          unfold s_bdo
          apply frS_ex (v := .t [.g (anC 0#64 false), .c (.b false)]) Try.func8 rfl Try.results8 Try.ntmps8 (by simp only [List.length_cons, List.length_nil]; decide)
          · intro _ _
            simp only [aqC, k] at p1
            (try simp (config := { maxSteps := 10000000 }) only [go_sem, seval, aqC, lr, ro, rt, p1, anC, k, h0]; repeat (simp (disch := omega) only [w64_d, ipos, ineg, dpos, dneg]; try simp (config := { maxSteps := 10000000 }) only [go_sem, seval, aqC, lr, ro, rt, p1, anC, k, h0]))
            exact fin_same
          · simp
          · exact bdo_post hB (by rw [ev, eo]) (by rw [eb, et]; exact ⟨D.x, D.y, hB.app _, BK.app⟩)
        by_cases h1 : D.b.n ≤ h
        · have eo : bOk D.b.n h q = false := by simp [bOk, hm, k, h1]
          have ev : bDv D h q = 0#64 := by simp [bDv, eo]
          have eb : bDb D h q = D.b := by simp [bDb, eo]
          have et : bDt D h q = D.t := by simp [bDt, eo]
          unfold s_bdo
          apply frS_ex (v := .t [.g (anC 0#64 false), .c (.b false)]) Try.func8 rfl Try.results8 Try.ntmps8 (by simp only [List.length_cons, List.length_nil]; decide)
          · intro _ _
            simp only [aqC, k] at p1
            (try simp (config := { maxSteps := 10000000 }) only [go_sem, seval, aqC, lr, ro, rt, p1, anC, k, h0, h1, hoX, ll, d1]; repeat (simp (disch := omega) only [w64_d, ipos, ineg, dpos, dneg]; try simp (config := { maxSteps := 10000000 }) only [go_sem, seval, aqC, lr, ro, rt, p1, anC, k, h0, h1, hoX, ll, d1]))
            exact fin_same
          · simp
          · exact bdo_post hB (by rw [ev, eo]) (by rw [eb, et]; exact ⟨D.x, D.y, hB.app _, BK.app⟩)
        have eo : bOk D.b.n h q = true := by simp [bOk, hm, h0, h1]
        have bl := fun X => s_blines_eq (hB.app X) h
        have f : BFin H (H ++ [.own (aqC q), .own (.u 0#64 :: .b false :: zMl), .own (.u (bLn D.b h) :: .b false :: zMl)]) D D (aqC q) (.u (bLn D.b h) :: .b false :: zMl) := ⟨hB.app _, BK.app, Loc.of⟩
        have ev : bDv D h q = bLn D.b h := by simp [bDv, eo, k]
        have eb : bDb D h q = bEn D.b D.t := by simp [bDb, bMb, bMt, eo, k]
        have et : bDt D h q = D.t := by simp [bDt, bMt, eo, k]
        obtain ⟨K2, hK⟩ : ∃ K, H ++ [.own (aqC q), .own (.u 0#64 :: .b false :: zMl), .own (.u (bLn D.b h) :: .b false :: zMl)] = K := ⟨_, rfl⟩
        rw [hK] at f
        obtain ⟨K3, w, o, lo, ul, pw, o2, o1, s1, fin, fl⟩ := f.all hB
        unfold s_bdo
        apply frS_ex (v := .t [.g (anC (bLn D.b h) false), .c (.b true)]) Try.func8 rfl Try.results8 Try.ntmps8 (by simp only [List.length_cons, List.length_nil]; decide)
        · intro _ _
          simp only [aqC, k] at p1 hK
          (try simp (config := { maxSteps := 10000000 }) only [go_sem, seval, aqC, lr, ro, rt, p1, anC, k, hoX, ll, d0, d1, bf, h0, h1, bl, hK, o, lo, ul, pw, o2, o1, s1]; repeat (simp (disch := omega) only [w64_d, ipos, ineg, dpos, dneg]; try simp (config := { maxSteps := 10000000 }) only [go_sem, seval, aqC, lr, ro, rt, p1, anC, k, hoX, ll, d0, d1, bf, h0, h1, bl, hK, o, lo, ul, pw, o2, o1, s1]))
          (repeat' first | apply And.intro | (intro _; kernel_rfl) | kernel_rfl)
          exact fin_same
        · exact fl
        · exact bdo_post hB (by rw [ev, eo]) (by rw [eb, et]; exact fin)
      · have eo : bOk D.b.n h q = true := by simp [bOk, hm, k]
        have ct := s_ctick_eq hA.ck (n := q.d.toInt)
        rw [hA.ckS] at ct
        have st : BStep (H ++ [.own (aqC q), .own (.u 0#64 :: .b false :: zMl), .own (.u 0#64 :: .b false :: zMl)]) _ D { D.b with c := ckT D.b.c q.d.toInt } D.t := ⟨D.x, D.y, hA.set (hB.ok.ck (ckT_ok hB.ok.c _) (ckT_n _ _)), hA.setK _⟩
        obtain ⟨K1, hK⟩ : ∃ K : AH, (H ++ [.own (aqC q), .own (.u 0#64 :: .b false :: zMl), .own (.u 0#64 :: .b false :: zMl)] : AH).set D.id (.own (busC D.pid { D.b with c := ckT D.b.c q.d.toInt })) = K := ⟨_, rfl⟩
        rw [hK] at st ct
        obtain ⟨E, eB, eT, f⟩ := BFin.of hB st
        have ev : bDv D h q = 0#64 := by simp [bDv, eo, k]
        have eb : bDb D h q = bEn E.b E.t := by simp [bDb, bMb, bMt, eo, k, eB, eT]
        have et : bDt D h q = E.t := by simp [bDt, bMt, eo, k, eT]
        obtain ⟨K3, w, o, lo, ul, pw, o2, o1, s1, fin, fl⟩ := f.all hB
        unfold s_bdo
        apply frS_ex (v := .t [.g (anC (0#64) false), .c (.b true)]) Try.func8 rfl Try.results8 Try.ntmps8 (by simp only [List.length_cons, List.length_nil]; decide)
        · intro _ _
          simp only [aqC, k] at p1 ct
          (try simp (config := { maxSteps := 10000000 }) only [go_sem, seval, aqC, lr, ro, rt, p1, anC, k, hoX, ll, d0, d1, bf, ct, o, lo, ul, pw, o2, o1, s1]; repeat (simp (disch := omega) only [w64_d, ipos, ineg, dpos, dneg]; try simp (config := { maxSteps := 10000000 }) only [go_sem, seval, aqC, lr, ro, rt, p1, anC, k, hoX, ll, d0, d1, bf, ct, o, lo, ul, pw, o2, o1, s1]))
          (repeat' first | apply And.intro | (intro _; kernel_rfl) | kernel_rfl)
          exact fin_same
        · exact fl
        · exact bdo_post hB (by rw [ev, eo]) (by rw [eb, et]; exact fin)
      · have eo : bOk D.b.n h q = true := by simp [bOk, hm, k]
        obtain ⟨K1, x', u1, u2, u3⟩ := input_ok hA.pi (toBy q.d) hf.1
        obtain ⟨g1, g2⟩ := hA.port u2 u3
        have st : BStep (H ++ [.own (aqC q), .own (.u 0#64 :: .b false :: zMl), .own (.u 0#64 :: .b false :: zMl)]) K1 D D.b (inputP D.t (toBy q.d)).1 := ⟨x', D.y, g1, g2⟩
        have tb : IntKind.u8.wrap (q.d.toNat : Int) = toBy q.d := rfl
        obtain ⟨E, eB, eT, f⟩ := BFin.of hB st
        have ev : bDv D h q = 0#64 := by simp [bDv, eo, k]
        have eb : bDb D h q = bEn E.b E.t := by simp [bDb, bMb, bMt, eo, k, eB, eT]
        have et : bDt D h q = E.t := by simp [bDt, bMt, eo, k, eT]
        obtain ⟨K3, w, o, lo, ul, pw, o2, o1, s1, fin, fl⟩ := f.all hB
        unfold s_bdo
        apply frS_ex (v := .t [.g (anC (0#64) false), .c (.b true)]) Try.func8 rfl Try.results8 Try.ntmps8 (by simp only [List.length_cons, List.length_nil]; decide)
        · intro _ _
          simp only [aqC, k] at p1 u1
          (try simp (config := { maxSteps := 10000000 }) only [go_sem, seval, aqC, lr, ro, rt, p1, anC, k, hoX, ll, d0, d1, bf, u1, tb, o, lo, ul, pw, o2, o1, s1]; repeat (simp (disch := omega) only [w64_d, ipos, ineg, dpos, dneg]; try simp (config := { maxSteps := 10000000 }) only [go_sem, seval, aqC, lr, ro, rt, p1, anC, k, hoX, ll, d0, d1, bf, u1, tb, o, lo, ul, pw, o2, o1, s1]))
          (repeat' first | apply And.intro | (intro _; kernel_rfl) | kernel_rfl)
          exact fin_same
        · exact fl
        · exact bdo_post hB (by rw [ev, eo]) (by rw [eb, et]; exact fin)
      · have eo : bOk D.b.n h q = true := by simp [bOk, hm, k]
        have ev : bDv D h q = 0#64 := by simp [bDv, eo, k]
        rcases Classical.propComplete (q.s = 10) with s10 | s10
        · have f : BFin H (H ++ [.own (aqC q), .own (.u 0#64 :: .b false :: zMl), .own (.u 0#64 :: .b false :: zMl)]) D D (aqC q) (.u 0#64 :: .b false :: zMl) := ⟨hB.app _, BK.app, Loc.of⟩
          have eb : bDb D h q = bEn D.b D.t := by simp [bDb, bMb, bMt, eo, k, s10]
          have et : bDt D h q = D.t := by simp [bDt, bMt, eo, k]
          obtain ⟨K3, w, o, lo, ul, pw, o2, o1, s1, fin, fl⟩ := f.all hB
          unfold s_bdo
          apply frS_ex (v := .t [.g (anC (0#64) false), .c (.b true)]) Try.func8 rfl Try.results8 Try.ntmps8 (by simp only [List.length_cons, List.length_nil]; decide)
          · intro _ _
            simp only [aqC, k] at p1 ul pw
            (try simp (config := { maxSteps := 10000000 }) only [go_sem, seval, aqC, lr, ro, rt, p1, anC, k, hoX, ll, d0, d1, bf, s10, o, lo, ul, pw, o2, o1, s1]; repeat (simp (disch := omega) only [w64_d, ipos, ineg, dpos, dneg]; try simp (config := { maxSteps := 10000000 }) only [go_sem, seval, aqC, lr, ro, rt, p1, anC, k, hoX, ll, d0, d1, bf, s10, o, lo, ul, pw, o2, o1, s1]))
            (repeat' first | apply And.intro | (intro _; kernel_rfl) | kernel_rfl)
            exact fin_same
          · exact fl
          · exact bdo_post hB (by rw [ev, eo]) (by rw [eb, et]; exact fin)
        · have wr := s_pwire_eq hA.pk (s := q.s) (on := q.lv)
          rw [hA.pkS] at wr
          have st : BStep (H ++ [.own (aqC q), .own (.u 0#64 :: .b false :: zMl), .own (.u 0#64 :: .b false :: zMl)]) _ D { D.b with k := plWire D.b.k q.s q.lv } D.t := ⟨D.x, D.y, hA.set (hB.ok.pk (plWire_ok hB.ok.k _ _) (plWire_n _ _ _)), hA.setK _⟩
          obtain ⟨K1, hK⟩ : ∃ K : AH, (H ++ [.own (aqC q), .own (.u 0#64 :: .b false :: zMl), .own (.u 0#64 :: .b false :: zMl)] : AH).set D.id (.own (busC D.pid { D.b with k := plWire D.b.k q.s q.lv })) = K := ⟨_, rfl⟩
          rw [hK] at st wr
          obtain ⟨E, eB, eT, f⟩ := BFin.of hB st
          have eb : bDb D h q = bEn E.b E.t := by simp [bDb, bMb, bMt, eo, k, eB, eT, s10]
          have et : bDt D h q = E.t := by simp [bDt, bMt, eo, k, eT]
          obtain ⟨K3, w, o, lo, ul, pw, o2, o1, s1, fin, fl⟩ := f.all hB
          unfold s_bdo
          apply frS_ex (v := .t [.g (anC (0#64) false), .c (.b true)]) Try.func8 rfl Try.results8 Try.ntmps8 (by simp only [List.length_cons, List.length_nil]; decide)
          · intro _ _
            simp only [aqC, k] at p1 wr
            (try simp (config := { maxSteps := 10000000 }) only [go_sem, seval, aqC, lr, ro, rt, p1, anC, k, hoX, ll, d0, d1, bf, s10, wr, o, lo, ul, pw, o2, o1, s1]; repeat (simp (disch := omega) only [w64_d, ipos, ineg, dpos, dneg]; try simp (config := { maxSteps := 10000000 }) only [go_sem, seval, aqC, lr, ro, rt, p1, anC, k, hoX, ll, d0, d1, bf, s10, wr, o, lo, ul, pw, o2, o1, s1]))
            (repeat' first | apply And.intro | (intro _; kernel_rfl) | kernel_rfl)
            exact fin_same
          · exact fl
          · exact bdo_post hB (by rw [ev, eo]) (by rw [eb, et]; exact fin)
  obtain ⟨v, H1, h1, h2, h3⟩ := this
  obtain ⟨rfl, h4⟩ := h3.2 D h q rfl hB
  exact ⟨H1, h1, h2, h4⟩
end
end Go.Proofs.Ytfddaaplnnlfoaa
