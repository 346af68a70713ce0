/- Layer 18: new buses, the example: contracts. -/
import Derived.Test.YtfddaaplnnlfoaaBsB
namespace Go.Proofs.Ytfddaaplnnlfoaa
open Go.Am
set_option linter.unusedSimpArgs false
set_option linter.unusedVariables false
noncomputable section

/-! ## XBs6 -/
section
variable {H : AH} {D : Bd}

theorem BStep.app {K1 : AH} {b : Bs} {t : Pt} (h : BStep H K1 D b t) (X : AH) : BStep H (K1 ++ X) D b t := by
  obtain ⟨x, y, h1, h2⟩ := h
  exact ⟨x, y, h1.app X, h2.trans BK.app⟩
/-! ### new ones -/
def bN (n : Int) : Bs := ⟨n, ckN n, pkN n⟩
theorem ckN_n {n : Int} (h : 1 ≤ n ∧ n ≤ 8) : (ckN n).n = n := by unfold ckN; rw [if_pos h]; rfl
theorem pkN_n {n : Int} (h : 1 ≤ n ∧ n ≤ 8) : (pkN n).n = n := by unfold pkN; rw [if_pos h]; rfl
theorem bN_ok {n : Int} (h : 1 ≤ n ∧ n ≤ 8) : BsOk (bN n) := ⟨ckN_ok n, pkN_ok n, h.1, h.2, ckN_n h, pkN_n h⟩
def dN (H : AH) (n : Int) : Bd := ⟨H.length + 1, H.length, bN n, pt0, .nils, .nils⟩
def s_bnew (args : List AV) (H : AH) : Option (AV × AH) :=
  match args with
  | [.c (.i n)] => if 1 ≤ n ∧ n ≤ 8 then some (.t [.c (.p (H.length + 1) 0 0), .c (.i 0)], H ++ [.own (poC po0), .own (busC H.length (bN n))]) else some (.t [.c .nilp, .c (.i 1)], H)
  | _ => none
theorem len_bnew (args : List AV) (H : AH) (v : AV) (H1 : AH) (h : s_bnew args H = some (v, H1)) : H.length ≤ H1.length := by
  unfold s_bnew at h
  repeat' split at h
  · simp at h; rw [← h.2]; simp
  · simp at h; rw [← h.2]; exact Nat.le_refl _
  · simp at h
theorem dN_bi (H : AH) {n : Int} (h : 1 ≤ n ∧ n ≤ 8) : BI (H ++ [.own (poC po0), .own (busC H.length (bN n))]) (dN H n) := by
  refine ⟨?_, bN_ok h, ?_⟩
  · show hg _ (H.length + 1) = _
    rw [hg_len_add]; rfl
  · have := pi_app (X := [.own (busC H.length (bN n))]) (pi_new H)
    rw [List.append_assoc] at this
    exact this
theorem s_bnew_ok {n : Int} (h : 1 ≤ n ∧ n ≤ 8) : s_bnew [.c (.i n)] H = some (.t [.c (.p (H.length + 1) 0 0), .c (.i 0)], H ++ [.own (poC po0), .own (busC H.length (bN n))]) := by simp only [s_bnew, if_pos h]
theorem s_bnew_no {n : Int} (h : ¬ (1 ≤ n ∧ n ≤ 8)) : s_bnew [.c (.i n)] H = some (.t [.c .nilp, .c (.i 1)], H) := by simp only [s_bnew, if_neg h]
set_option maxRecDepth 100000 in
set_option maxHeartbeats 2000000 in
theorem ok_bnew : FpOk Try.prog 6 s_bnew := by
  refine fp_ok (s := s_bnew) (tab := [(24, .fp s_unew), (25, .pu s_cnew), (26, .pu s_pnew)]) hmix (TabOk.cons (e := .fp s_unew) ok_unew (TabOk.cons (e := .pu s_cnew) ok_cnew (TabOk.cons (e := .pu s_pnew) ok_pnew TabOk.nil))) Try.func6 rfl Try.results6 Try.ntmps6 (by kernel_rfl) (by kernel_rfl) len_bnew ?_
  intro args H v H1 h hargs hH
  unfold s_bnew at h
  split at h
  · rename_i n
    refine ⟨by simp only [List.length_cons, List.length_nil]; decide, ?_⟩
    split at h
    · rename_i hn
      simp only [Option.some.injEq, Prod.mk.injEq] at h
      obtain ⟨rfl, rfl⟩ := h
      have c1 : ¬ n < 1 := by omega
      have c2 : ¬ 8 < n := by omega
      have l1 := ckC_l (ckN_ok n)
      have l2 := pkC_l (pkN_ok n)
      have o1 := ckC_one (ckN n)
      have o2 := pkC_one (pkN n)
      have t1 : ∀ m : List Sc, List.take 18 (ckC (ckN n) ++ m) = ckC (ckN n) := fun m => List.take_left' l1
      have t3 : ∀ m : List Sc, List.drop 86 (ckC (ckN n) ++ m) = List.drop 68 m := fun m => by rw [List.drop_append, l1, List.drop_of_length_le (by omega), List.nil_append]
      have t2 : List.take 68 (pkC (pkN n)) = pkC (pkN n) := List.take_of_length_le (by omega)
      (try simp (config := { maxSteps := 10000000 }) only [go_sem, seval, un7, s_cnew_eq, s_pnew_eq, c1, c2, l1, l2, o1, o2, t1, t2, t3]; repeat (simp (disch := omega) only [w64_d, ipos, ineg, dpos, dneg]; try simp (config := { maxSteps := 10000000 }) only [go_sem, seval, un7, s_cnew_eq, s_pnew_eq, c1, c2, l1, l2, o1, o2, t1, t2, t3]))
      exact fin_same
    · rename_i hn
      simp only [Option.some.injEq, Prod.mk.injEq] at h
      obtain ⟨rfl, rfl⟩ := h
      by_cases c1 : n < 1
      · (try simp (config := { maxSteps := 10000000 }) only [go_sem, seval, c1]; repeat (simp (disch := omega) only [w64_d, ipos, ineg, dpos, dneg]; try simp (config := { maxSteps := 10000000 }) only [go_sem, seval, c1]))
        exact fin_same
      · have c2 : 8 < n := by omega
        (try simp (config := { maxSteps := 10000000 }) only [go_sem, seval, c1, c2]; repeat (simp (disch := omega) only [w64_d, ipos, ineg, dpos, dneg]; try simp (config := { maxSteps := 10000000 }) only [go_sem, seval, c1, c2]))
        exact fin_same
  · simp at h
end

/-! ## XBs7 -/
section
variable {H : AH} {D : Bd}

def zR : List Sc := [.i 0, .b false, .b false, .b false, .u 0#64, .i 0, .i 0, .u 0#64, .i 0, .u 0#64]
theorem zR_ok : askR zR := ⟨rfl, rfl, rfl⟩
/-- a write -/
def lq (a : BitVec 64) (z : Int) (v : BitVec 64) : Aq := ⟨10, a, 0#64, 0, z, 0, v, 0#64, false, zR⟩
def q_blay (args : List AV) (H : AH) (v : AV) (H1 : AH) : Prop := ∀ D a z w, args = [.c (.p D.id 0 0), .c (.u a), .c (.i z), .c (.u w)] → BI H D → v = .c (.b (bOk D.b.n 0 (lq a z w))) ∧ BStep H H1 D (bDb D 0 (lq a z w)) (bDt D 0 (lq a z w))
def s_blay : List AV → AH → Option (AV × AH) := frS Try.prog [(8, .fp s_bdo)] 7 q_blay
set_option maxRecDepth 100000 in
set_option maxHeartbeats 2000000 in
theorem ok_blay : FpOk Try.prog 7 s_blay := frS_ok hmix (TabOk.cons (e := .fp s_bdo) ok_bdo TabOk.nil) Try.func7 rfl Try.results7 Try.ntmps7 (by kernel_rfl) (by kernel_rfl)
theorem s_blay_ex (hB : BI H D) (hf : Few D.t) (a : BitVec 64) (z : Int) (w : BitVec 64) : ∃ H1, s_blay [.c (.p D.id 0 0), .c (.u a), .c (.i z), .c (.u w)] H = some (.c (.b (bOk D.b.n 0 (lq a z w))), H1) ∧ H.length ≤ H1.length ∧ BStep H H1 D (bDb D 0 (lq a z w)) (bDt D 0 (lq a z w)) := by
  have : ∃ v H1, s_blay [.c (.p D.id 0 0), .c (.u a), .c (.i z), .c (.u w)] H = some (v, H1) ∧ H.length ≤ H1.length ∧ q_blay [.c (.p D.id 0 0), .c (.u a), .c (.i z), .c (.u w)] H v H1 := by
    obtain ⟨K1, e1, l1, st, _⟩ := s_bdo_ex hB hf 0 (q := lq a z w) zR_ok
    simp only [aqC, lq, zR, anC] at e1
    unfold s_blay
    apply frS_ex (v := .c (.b (bOk D.b.n 0 (lq a z w)))) Try.func7 rfl Try.results7 Try.ntmps7 (by simp only [List.length_cons, List.length_nil]; decide)
    · intro _ _
      (try simp (config := { maxSteps := 10000000 }) only [go_sem, seval, lq, zR, e1]; repeat (simp (disch := omega) only [w64_d, ipos, ineg, dpos, dneg]; try simp (config := { maxSteps := 10000000 }) only [go_sem, seval, lq, zR, e1]))
      exact fin_same
    · simp; omega
    · intro E a' z' w' he hE
      simp only [List.cons.injEq, AV.c.injEq, Sc.p.injEq, Sc.i.injEq, Sc.u.injEq, and_true] at he
      obtain ⟨e1, rfl, rfl, rfl⟩ := he
      obtain rfl := hB.uniq hE e1
      exact ⟨rfl, st.app _⟩
  obtain ⟨v, H1, h1, h2, h3⟩ := this
  obtain ⟨rfl, h4⟩ := h3 D a z w rfl hB
  exact ⟨H1, h1, h2, h4⟩
/-! ### the example -/
def inq (d : BitVec 64) : Aq := ⟨19, 0#64, 0#64, 0, 0, 0, d, 0#64, false, zR⟩
/-- a bus but for where it stands -/
structure Bx where
  b : Bs
  t : Pt
def Bx.d (x : Bx) : Bd := ⟨0, 0, x.b, x.t, .nils, .nils⟩
def Bx.go (x : Bx) (h : Int) (q : Aq) : Bx := ⟨bDb x.d h q, bDt x.d h q⟩
def Bx.v (x : Bx) (h : Int) (q : Aq) : BitVec 64 := bDv x.d h q
theorem bx_b (D : Bd) (h : Int) (q : Aq) : bDb D h q = ((⟨D.b, D.t⟩ : Bx).go h q).b := rfl
theorem bx_t (D : Bd) (h : Int) (q : Aq) : bDt D h q = ((⟨D.b, D.t⟩ : Bx).go h q).t := rfl
theorem bx_v (D : Bd) (h : Int) (q : Aq) : bDv D h q = (⟨D.b, D.t⟩ : Bx).v h q := rfl
/-- the bus at a place -/
def At (H : AH) (id : Nat) (x : Bx) : Prop := ∃ D, BI H D ∧ D.id = id ∧ D.b = x.b ∧ D.t = x.t
theorem At.step {K : AH} {id : Nat} {x : Bx} {h : Int} {q : Aq} (hA : At H id x) (hs : ∀ D, BI H D → D.id = id → D.b = x.b → D.t = x.t → BStep H K D (bDb D h q) (bDt D h q)) : At K id (x.go h q) := by
  obtain ⟨D, h1, h2, h3, h4⟩ := hA
  obtain ⟨x', y', g1, g2⟩ := hs D h1 h2 h3 h4
  refine ⟨_, g1, h2, ?_, ?_⟩
  · show bDb D h q = _
    rw [bx_b, h3, h4]
  · show bDt D h q = _
    rw [bx_t, h3, h4]
theorem At.app {id : Nat} {x : Bx} (h : At H id x) (X : AH) : At (H ++ X) id x := by
  obtain ⟨D, h1, h2⟩ := h
  exact ⟨D, h1.app X, h2⟩
theorem At.lay {id : Nat} {x : Bx} (hA : At H id x) (hf : Few x.t) (a : BitVec 64) (z : Int) (w : BitVec 64) : ∃ K, s_blay [.c (.p id 0 0), .c (.u a), .c (.i z), .c (.u w)] H = some (.c (.b (bOk x.b.n 0 (lq a z w))), K) ∧ At K id (x.go 0 (lq a z w)) := by
  obtain ⟨D, h1, rfl, h3, h4⟩ := hA
  obtain ⟨K, e, _, st⟩ := s_blay_ex h1 (by rw [h4]; exact hf) a z w
  refine ⟨K, by rw [e, h3], At.step ⟨D, h1, rfl, h3, h4⟩ fun E e1 e2 _ _ => ?_⟩
  rw [h1.uniq e1 e2.symm] at st
  exact st
theorem At.do {id : Nat} {x : Bx} (hA : At H id x) (hf : Few x.t) (h : Int) {q : Aq} (hq : askR q.r) : ∃ K, s_bdo [.c (.p id 0 0), .c (.i h), .g (aqC q)] H = some (.t [.g (anC (x.v h q) false), .c (.b (bOk x.b.n h q))], K) ∧ At K id (x.go h q) := by
  obtain ⟨D, h1, rfl, h3, h4⟩ := hA
  obtain ⟨K, e, _, st, _⟩ := s_bdo_ex h1 (by rw [h4]; exact hf) h hq
  refine ⟨K, by rw [e, bx_v, h3, h4], At.step ⟨D, h1, rfl, h3, h4⟩ fun E e1 e2 _ _ => ?_⟩
  rw [h1.uniq e1 e2.symm] at st
  exact st
theorem At.lines {id : Nat} {x : Bx} (hA : At H id x) (h : Int) : s_blines [.c (.p id 0 0), .c (.i h)] H = some (.c (.u (bLn x.b h))) := by
  obtain ⟨D, h1, rfl, h3, h4⟩ := hA
  rw [s_blines_eq h1 h, h3]
theorem At.new (H : AH) {n : Int} (h : 1 ≤ n ∧ n ≤ 8) : At (H ++ [.own (poC po0), .own (busC H.length (bN n))]) (H.length + 1) ⟨bN n, pt0⟩ := ⟨_, dN_bi H h, rfl, rfl, rfl⟩
def lx0 : Bx := ⟨bN 1, pt0⟩
def lx1 : Bx := lx0.go 0 (lq 268435457#64 1 1#64)
def lx2 : Bx := lx1.go 0 (lq 201326632#64 4 1#64)
def lx3 : Bx := lx2.go 0 (lq 201334784#64 4 1024#64)
def lx4 : Bx := lx3.go 0 (inq 65#64)
theorem lx_ok : bOk lx0.b.n 0 (lq 268435457#64 1 1#64) = true ∧ bOk lx1.b.n 0 (lq 201326632#64 4 1#64) = true ∧ bOk lx2.b.n 0 (lq 201334784#64 4 1024#64) = true ∧ bLn lx4.b 0 = 2048#64 := by
  refine ⟨?_, ?_, ?_, ?_⟩ <;> decide +kernel
theorem lx_few : lx0.t.A.length = 0 ∧ lx0.t.B.length = 0 ∧ lx1.t.A.length = 0 ∧ lx1.t.B.length = 0 ∧ lx2.t.A.length = 0 ∧ lx2.t.B.length = 0 ∧ lx3.t.A.length = 0 ∧ lx3.t.B.length = 0 := by
  refine ⟨?_, ?_, ?_, ?_, ?_, ?_, ?_, ?_⟩ <;> decide +kernel
def s_live18 (args : List AV) : Option AV :=
  match args with
  | [] => some (.c (.b true))
  | _ => none
theorem s_live18_eq : s_live18 [] = some (.c (.b true)) := rfl
set_option maxRecDepth 100000 in
set_option maxHeartbeats 2000000 in
theorem ok_live18 : PuOk Try.prog 10 s_live18 := by
  refine pu_ok (tab := [(6, .fp s_bnew), (7, .fp s_blay), (8, .fp s_bdo), (9, .fq s_blines)]) hmix (TabOk.cons (e := .fp s_bnew) ok_bnew (TabOk.cons (e := .fp s_blay) ok_blay (TabOk.cons (e := .fp s_bdo) ok_bdo (TabOk.cons (e := .fq s_blines) ok_blines TabOk.nil)))) Try.func10 rfl Try.results10 Try.ntmps10 (by kernel_rfl) (by kernel_rfl) ?_
  intro args v h
  unfold s_live18 at h
  split at h
  · simp only [Option.some.injEq] at h; subst h
    refine ⟨by simp only [List.length_cons, List.length_nil]; decide, rfl, rfl, ?_⟩
    obtain ⟨o1, o2, o3, o4⟩ := lx_ok
    obtain ⟨f1, f2, f3, f4, f5, f6, f7, f8⟩ := lx_few
    have a0 := At.new [] (n := 1) ⟨by decide, by decide⟩
    have e0 := s_bnew_ok (H := []) (n := 1) ⟨by decide, by decide⟩
    obtain ⟨K1, e1, a1⟩ := a0.lay (show Few lx0.t from ⟨by omega, by omega⟩) 268435457#64 1 1#64
    obtain ⟨K2, e2, a2⟩ := a1.lay (show Few lx1.t from ⟨by omega, by omega⟩) 201326632#64 4 1#64
    obtain ⟨K3, e3, a3⟩ := a2.lay (show Few lx2.t from ⟨by omega, by omega⟩) 201334784#64 4 1024#64
    obtain ⟨K4, e4, a4⟩ := a3.do (show Few lx3.t from ⟨by omega, by omega⟩) 0 (q := inq 65#64) zR_ok
    have e5 := a4.lines 0
    change _ = some (AV.c (.b (bOk lx0.b.n 0 (lq 268435457#64 1 1#64))), K1) at e1
    change _ = some (AV.c (.b (bOk lx1.b.n 0 (lq 201326632#64 4 1#64))), K2) at e2
    change _ = some (AV.c (.b (bOk lx2.b.n 0 (lq 201334784#64 4 1024#64))), K3) at e3
    change _ = some (AV.c (.u (bLn lx4.b 0))) at e5
    rw [o1] at e1
    rw [o2] at e2
    rw [o3] at e3
    rw [o4] at e5
    simp only [aqC, inq, zR] at e4
    simp only [List.length_nil, Nat.zero_add, List.nil_append] at e0 e1 e2 e3 e4 e5
    generalize hB : busC _ _ = B at *
    (try simp (config := { maxSteps := 10000000 }) only [go_sem, seval, e0, hB, e1, e2, e3, e4, e5]; repeat (simp (disch := omega) only [w64_d, ipos, ineg, dpos, dneg]; try simp (config := { maxSteps := 10000000 }) only [go_sem, seval, e0, hB, e1, e2, e3, e4, e5]))
  · simp at h
end

end
end Go.Proofs.Ytfddaaplnnlfoaa
