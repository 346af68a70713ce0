/- Layer 17: the law UartPlays. -/
import Derived.Test.YtbjkcjpcnbephaaU21
namespace Go.Proofs.Ytbjkcjpcnbephaa
open Go.Am
set_option linter.unusedSimpArgs false
set_option linter.unusedVariables false
noncomputable section

structure Dd where
  k : Int
  o : BitVec 64
  b : Int
def encD (d : Dd) : List Sc := [.i d.k, .u d.o, .k .u8 d.b]
def dcD : List Sc → Option Dd
  | [.i k, .u o, .k .u8 b] => some ⟨k, o, b⟩
  | _ => none
theorem dcD_e (x : Dd) : dcD (encD x) = some x := rfl
theorem dcD_d (cs : List Sc) (x : Dd) (h : dcD cs = some x) : cs = encD x := by unfold dcD at h; split at h <;> simp_all [encD] <;> subst h <;> simp
theorem encD_l (x : Dd) : (encD x).length = 3 := rfl
/-- both ports, at the head of the loop -/
structure LpI (H : AH) (o : List Sc) (K : AH) (n : Nat) (t : Pt) (x y u v : Sc) : Prop where
  ok : DoOk K (H.length + 1) t x y u v
  keep : ∀ k, k < H.length → hg K k = hg H k
  ob : hg K H.length = .own o
  orf : hg K (H.length + 2) = .own (rpC t u v)
  nx : ∀ i, sid x = some i → H.length + 3 ≤ i
  ny : ∀ i, sid y = some i → H.length + 3 ≤ i
  nu : ∀ i, sid u = some i → H.length + 3 ≤ i
  nv : ∀ i, sid v = some i → H.length + 3 ≤ i
  a8 : all8 t.A = true
  b8 : all8 t.B = true
  la : t.A.length ≤ n
  lb : t.B.length ≤ n
theorem lp_0 (H : AH) (o : List Sc) : LpI H o (H ++ [.own o, .own (poC po0), .own zr]) 0 pt0 .nils .nils .nils .nils := by
  have p : hg (H ++ [.own o, .own (poC po0), .own zr]) (H.length + 1) = .own (poC po0) := by simp [hg, List.getD_eq_getElem?_getD]
  refine ⟨⟨⟨p, .inl ⟨rfl, rfl⟩, .inl ⟨rfl, rfl⟩, fun i h => by simp [sid] at h⟩, ⟨rfl, rfl, by decide, by decide, by decide, by decide, by decide, by decide, by decide, by decide⟩, rfl, rfl, fun i h => by simp [sid] at h, fun i h => by simp [sid] at h⟩,
    fun k hk => hg_app hk, by simp [hg, List.getD_eq_getElem?_getD], by simp [hg, List.getD_eq_getElem?_getD]; rfl, fun i h => by simp [sid] at h, fun i h => by simp [sid] at h, fun i h => by simp [sid] at h, fun i h => by simp [sid] at h, rfl, rfl, Nat.le_refl _, Nat.le_refl _⟩
theorem LpI.len {H : AH} {o : List Sc} {K : AH} {n : Nat} {t : Pt} {x y u v : Sc} (I : LpI H o K n t x y u v) : H.length + 3 ≤ K.length := by
  have := hg_lt (H := K) (i := H.length + 2) (by rw [I.orf]; rfl); omega
/-- a deed is done at the head of the loop -/
theorem lp_do {H : AH} {o : List Sc} {K : AH} {n : Nat} {t : Pt} {x y u v : Sc} (I : LpI H o K n t x y u v) (hn : n < 1000000) (d : Dd) (hb : by8 d.b) :
    ∃ K1 x' y' u' v', s_do [.c (.p (H.length + 1) 0 0), .g (rpC t u v), .g (encD d)] K = some (.t [.g (rpC (deedP t d.k d.o d.b) u' v'), .c (.b true)], K1) ∧ (∀ X, hg (K1 ++ X) (H.length + 2) = .own (rpC t u v)) ∧ H.length + 3 ≤ K1.length ∧
      LpI H o (K1.set (H.length + 2) (.own (rpC (deedP t d.k d.o d.b) u' v')) ++ [.own (rpC (deedP t d.k d.o d.b) u' v')]) (n + 1) (deedP t d.k d.o d.b) x' y' u' v' := by
  have l3 := I.len
  obtain ⟨K1, x', y', u', v', q1, ok1, kp, nu, nv⟩ := do_ok I.ok (by have := I.la; omega) (by have := I.lb; omega) d.k d.o hb
  have ll := kp.len
  have kk : ∀ k, k < H.length + 3 → k ≠ H.length + 1 → hg K1 k = hg K k := fun k h1 h2 => kp.keep k (by omega) h2 (fun e => by have := I.nx k e; omega) (fun e => by have := I.ny k e; omega)
  obtain ⟨d1, d2, d3⟩ := dlt_deed (t := t) (kd := d.k) (off := d.o) hb
  obtain ⟨a8, b8⟩ := d3 I.a8 I.b8
  have fx : ∀ i, sid x' = some i → H.length + 3 ≤ i := fun i hi => by
    rcases kp.fx i hi with e | e
    · exact I.nx i e
    · omega
  have fy : ∀ i, sid y' = some i → H.length + 3 ≤ i := fun i hi => by
    rcases kp.fy i hi with e | e
    · exact I.ny i e
    · omega
  have fu : ∀ i, sid u' = some i → H.length + 3 ≤ i := fun i hi => by
    rcases nu i hi with e | e
    · exact I.nu i e
    · omega
  have fv : ∀ i, sid v' = some i → H.length + 3 ≤ i := fun i hi => by
    rcases nv i hi with e | e
    · exact I.nv i e
    · omega
  refine ⟨K1, x', y', u', v', q1, fun X => by rw [hg_app (by omega), kk _ (by omega) (by omega)]; exact I.orf, by omega,
    do_app (do_keep ok1 (by simp) fun i hi => hg_set_ne' ?_), fun k hk => ?_, ?_, ?_, fx, fy, fu, fv, a8, b8, by have := I.la; omega, by have := I.lb; omega⟩
  · intro e
    rcases hi with h | h | h | h | h
    · omega
    · have := fx i h; omega
    · have := fy i h; omega
    · have := fu i h; omega
    · have := fv i h; omega
  · rw [hg_app (by rw [List.length_set]; omega), hg_set_ne' (by omega), kk _ (by omega) (by omega)]; exact I.keep k hk
  · rw [hg_app (by rw [List.length_set]; omega), hg_set_ne' (by omega), kk _ (by omega) (by omega)]; exact I.ob
  · rw [hg_app (by rw [List.length_set]; omega), hg_set_same (by omega)]
/-- a copy stands -/
theorem cl_ok {K : AH} {id : Nat} {t : Pt} {x y u v : Sc} (ok : DoOk K id t x y u v) :
    DoOk (K ++ [.own (poC (poOf t (.sl (K.length + 1) 0 t.A.length t.A.length) (.sl (K.length + 2) 0 t.B.length t.B.length))), .vec 1 (t.A.flatMap enc8), .vec 1 (t.B.flatMap enc8)]) K.length t (.sl (K.length + 1) 0 t.A.length t.A.length) (.sl (K.length + 2) 0 t.B.length t.B.length) u v := by
  have lu : ∀ i, sid u = some i → i < K.length := fun i hi => sid_lt ok.rp.hx ok.bu hi
  have lv : ∀ i, sid v = some i → i < K.length := fun i hi => sid_lt ok.rp.hy ok.bv hi
  refine ⟨⟨by simp [hg, List.getD_eq_getElem?_getD], .inr ⟨_, rfl, by simp [hg, List.getD_eq_getElem?_getD]⟩, .inr ⟨_, rfl, by simp [hg, List.getD_eq_getElem?_getD]⟩, fun i h1 h2 => ?_⟩, rp_app ok.rp ok.bu ok.bv, Sc.bel_mono ok.bu (by simp), Sc.bel_mono ok.bv (by simp), fun i hi => ?_, fun i hi => ?_⟩
  · simp only [sid, Option.some.injEq] at h1 h2; omega
  · have := lu i hi; simp only [sid, ne_eq, Option.some.injEq]; omega
  · have := lv i hi; simp only [sid, ne_eq, Option.some.injEq]; omega
/-- two deeds are done to a copy: what was there stays -/
theorem cl_two {K : AH} {id : Nat} {t : Pt} {x y u v : Sc} (ok : DoOk K id t x y u v) (la : t.A.length < 1000) (lb : t.B.length < 1000) (a8 : all8 t.A = true) (b8 : all8 t.B = true) (d e : Dd) (hd : by8 d.b) (he : by8 e.b) :
    ∃ (K1 K2 : AH) (t1 t2 : Pt) (u1 v1 x2 y2 u2 v2 : Sc), s_do [.c (.p K.length 0 0), .g (rpC t u v), .g (encD d)] (K ++ [.own (poC (poOf t (.sl (K.length + 1) 0 t.A.length t.A.length) (.sl (K.length + 2) 0 t.B.length t.B.length))), .vec 1 (t.A.flatMap enc8), .vec 1 (t.B.flatMap enc8)]) = some (.t [.g (rpC t1 u1 v1), .c (.b true)], K1) ∧
      s_do [.c (.p K.length 0 0), .g (rpC t1 u1 v1), .g (encD e)] (K1 ++ [.own (rpC t1 u1 v1)]) = some (.t [.g (rpC t2 u2 v2), .c (.b true)], K2) ∧ DoOk K2 K.length t2 x2 y2 u2 v2 ∧ all8 t2.A = true ∧ all8 t2.B = true ∧ t2.A.length ≤ 1000000 ∧ t2.B.length ≤ 1000000 ∧
      K.length ≤ K1.length ∧ K.length ≤ K2.length ∧ (∀ i, i < K.length → hg K1 i = hg K i) ∧ (∀ i, i < K.length → hg K2 i = hg K i) ∧ (u1 = .nils ∨ ∃ i v n, u1 = .sl i 0 v n) ∧ (v1 = .nils ∨ ∃ i v n, v1 = .sl i 0 v n) := by
  have okc := cl_ok ok
  obtain ⟨K1, x1, y1, u1, v1, q1, ok1, kp1, _, _⟩ := do_ok okc (by omega) (by omega) d.k d.o hd
  obtain ⟨d1, d2, d3⟩ := dlt_deed (t := t) (kd := d.k) (off := d.o) hd
  obtain ⟨a8', b8'⟩ := d3 a8 b8
  obtain ⟨K2, x2, y2, u2, v2, q2, ok2, kp2, _, _⟩ := do_ok (do_app (X := [.own (rpC (deedP t d.k d.o d.b) u1 v1)]) ok1) (by omega) (by omega) e.k e.o he
  obtain ⟨e1, e2, e3⟩ := dlt_deed (t := deedP t d.k d.o d.b) (kd := e.k) (off := e.o) he
  obtain ⟨a8'', b8''⟩ := e3 a8' b8'
  have l1 := kp1.len
  have l2 := kp2.len
  simp only [List.length_append, List.length_cons, List.length_nil] at l1 l2
  have k1 : ∀ i, i < K.length → hg K1 i = hg K i := fun i hi => by
    rw [kp1.keep i (by simp; omega) (by omega) (by simp [sid]; omega) (by simp [sid]; omega), hg_app hi]
  refine ⟨K1, K2, _, _, u1, v1, x2, y2, u2, v2, q1, q2, ok2, a8'', b8'', by omega, by omega, by omega, by omega, k1, fun i hi => ?_, sl_shape ok1.rp.hx, sl_shape ok1.rp.hy⟩
  rw [kp2.keep i (by simp; omega) (by omega) (fun h => ?_) (fun h => ?_), hg_app (by omega), k1 i hi]
  · rcases kp1.fx i h with h | h
    · simp only [sid, Option.some.injEq] at h; omega
    · simp at h; omega
  · rcases kp1.fy i h with h | h
    · simp only [sid, Option.some.injEq] at h; omega
    · simp at h; omega
def s_uplays (args : List AV) (H : AH) : Option AV :=
  match args with
  | [.c x, .g [.i k1, .u o1, .k .u8 b1, .i k2, .u o2, .k .u8 b2]] =>
    match slD 3 dcD H x with
    | some L => if L.length ≤ 9223372036854775807 ∧ (∀ d ∈ L, by8 d.b) ∧ by8 b1 ∧ by8 b2 then some (.c (.b true)) else none
    | _ => none
  | _ => none
set_option maxHeartbeats 8000000 in
set_option maxRecDepth 100000 in
set_option maxHeartbeats 2000000 in
theorem ok_uplays : FpOk Try.prog 5 (fun args H => (s_uplays args H).map fun v => (v, H)) := by
  refine fq_ok (s := s_uplays) (tab := [(7, .fp s_unew), (17, .pu s_fits), (18, .fp s_do), (19, .fq s_holds), (15, .fp s_uclo), (16, .fq s_usame), (20, .fq s_rsame), (6, .pu s_live17)]) hmix (TabOk.cons (e := .fp s_unew) ok_unew (TabOk.cons (e := .pu s_fits) ok_fits (TabOk.cons (e := .fp s_do) ok_do (TabOk.cons (e := .fq s_holds) ok_holds (TabOk.cons (e := .fp s_uclo) ok_uclo (TabOk.cons (e := .fq s_usame) ok_usame (TabOk.cons (e := .fq s_rsame) ok_rsame (TabOk.cons (e := .pu s_live17) ok_live17 TabOk.nil)))))))) Try.func5 rfl Try.results5 Try.ntmps5 (by kernel_rfl) (by kernel_rfl) ?_
  intro args H v h hargs hH
  unfold s_uplays at h
  split at h
  · rename_i x k1 o1 b1 k2 o2 b2
    split at h
    · rename_i L hL
      split at h
      · rename_i hc
        obtain ⟨c1, c2, c3, c4⟩ := hc
        simp only [Option.some.injEq] at h
        subst h
        refine ⟨by simp only [List.length_cons, List.length_nil]; decide, rfl, ?_⟩
        have bx : x.bel H.length = true := by simp only [List.all_cons, AV.bel, Bool.and_eq_true] at hargs; exact hargs.1
        have xl : ∀ e, lenB (.sl e) (.c x) = some (.c (.i L.length)) := by
          intro e
          rcases slD_inv dcD_d hL with ⟨rfl, rfl⟩ | ⟨id2, v2, rfl, hv2, hcs2⟩ <;> rfl
        by_cases h150 : (150 : Int) < (L.length : Int)
        · (try simp (config := { maxSteps := 10000000 }) only [go_sem, List.reduceReplicate, BitVec.reduceOfInt, BitVec.reduceToNat, BitVec.reduceToInt, BitVec.reduceEq, BitVec.reduceLT, BitVec.reduceLE, BitVec.reduceAdd, BitVec.reduceSub, BitVec.reduceMul, BitVec.reduceUDiv, BitVec.reduceUMod, BitVec.reduceAnd, BitVec.reduceOr, BitVec.reduceXOr, BitVec.reduceNot, BitVec.reduceNeg, BitVec.reduceHShiftLeft, BitVec.reduceHShiftRight, Nat.reduceAdd, Nat.reduceMul, Nat.reduceSub, Nat.reduceBEq, Nat.reduceEqDiff, Nat.reduceLeDiff, Nat.reduceLT, Int.reduceLE, Int.reduceLT, Int.reduceAdd, Int.reduceSub, Int.reduceMul, Int.reduceNeg, Int.reduceToNat, Int.reduceEq, ↓reduceIte, reduceCtorEq, s_live17_eq, xl, h150]; repeat (simp (disch := omega) only [w64_d, ipos, ineg, dpos, dneg]; try simp (config := { maxSteps := 10000000 }) only [go_sem, List.reduceReplicate, BitVec.reduceOfInt, BitVec.reduceToNat, BitVec.reduceToInt, BitVec.reduceEq, BitVec.reduceLT, BitVec.reduceLE, BitVec.reduceAdd, BitVec.reduceSub, BitVec.reduceMul, BitVec.reduceUDiv, BitVec.reduceUMod, BitVec.reduceAnd, BitVec.reduceOr, BitVec.reduceXOr, BitVec.reduceNot, BitVec.reduceNeg, BitVec.reduceHShiftLeft, BitVec.reduceHShiftRight, Nat.reduceAdd, Nat.reduceMul, Nat.reduceSub, Nat.reduceBEq, Nat.reduceEqDiff, Nat.reduceLeDiff, Nat.reduceLT, Int.reduceLE, Int.reduceLT, Int.reduceAdd, Int.reduceSub, Int.reduceMul, Int.reduceNeg, Int.reduceToNat, Int.reduceEq, ↓reduceIte, reduceCtorEq, s_live17_eq, xl, h150]))
          first | exact subH_app _ _ | exact ⟨rfl, subH_app _ _⟩
        (try simp (config := { maxSteps := 10000000 }) only [go_sem, List.reduceReplicate, BitVec.reduceOfInt, BitVec.reduceToNat, BitVec.reduceToInt, BitVec.reduceEq, BitVec.reduceLT, BitVec.reduceLE, BitVec.reduceAdd, BitVec.reduceSub, BitVec.reduceMul, BitVec.reduceUDiv, BitVec.reduceUMod, BitVec.reduceAnd, BitVec.reduceOr, BitVec.reduceXOr, BitVec.reduceNot, BitVec.reduceNeg, BitVec.reduceHShiftLeft, BitVec.reduceHShiftRight, Nat.reduceAdd, Nat.reduceMul, Nat.reduceSub, Nat.reduceBEq, Nat.reduceEqDiff, Nat.reduceLeDiff, Nat.reduceLT, Int.reduceLE, Int.reduceLT, Int.reduceAdd, Int.reduceSub, Int.reduceMul, Int.reduceNeg, Int.reduceToNat, Int.reduceEq, ↓reduceIte, reduceCtorEq, xl, h150, un7]; repeat (simp (disch := omega) only [w64_d, ipos, ineg, dpos, dneg]; try simp (config := { maxSteps := 10000000 }) only [go_sem, List.reduceReplicate, BitVec.reduceOfInt, BitVec.reduceToNat, BitVec.reduceToInt, BitVec.reduceEq, BitVec.reduceLT, BitVec.reduceLE, BitVec.reduceAdd, BitVec.reduceSub, BitVec.reduceMul, BitVec.reduceUDiv, BitVec.reduceUMod, BitVec.reduceAnd, BitVec.reduceOr, BitVec.reduceXOr, BitVec.reduceNot, BitVec.reduceNeg, BitVec.reduceHShiftLeft, BitVec.reduceHShiftRight, Nat.reduceAdd, Nat.reduceMul, Nat.reduceSub, Nat.reduceBEq, Nat.reduceEqDiff, Nat.reduceLeDiff, Nat.reduceLT, Int.reduceLE, Int.reduceLT, Int.reduceAdd, Int.reduceSub, Int.reduceMul, Int.reduceNeg, Int.reduceToNat, Int.reduceEq, ↓reduceIte, reduceCtorEq, xl, h150, un7]))
        rw [arun_loop]
        refine ⟨{s : Nat × AH × Pt × Sc × Sc × Sc × Sc // s.1 ≤ L.length ∧ LpI H [.i k1, .u o1, .k .u8 b1, .i k2, .u o2, .k .u8 b2] s.2.1 s.1 s.2.2.1 s.2.2.2.1 s.2.2.2.2.1 s.2.2.2.2.2.1 s.2.2.2.2.2.2},
          fun s => ([(0, .c x), (3, .c (.p H.length 0 0)), (4, .c (.b false)), (5, .c (.p (H.length + 1) 0 0)), (6, .c (.p (H.length + 2) 0 0)), (7, .c (.i s.1.1))], s.1.2.1), fun s => L.length - s.1.1,
          ⟨(0, _, pt0, .nils, .nils, .nils, .nils), by simp, lp_0 H _⟩, Wk.fr (by simp [Am.get]), ?_⟩
        rintro ⟨⟨k, K, t, y, z, u, w⟩, hk, I⟩
        simp only at hk I ⊢
        by_cases hlt : k < L.length
        · rcases slD_inv dcD_d hL with ⟨rfl, rfl⟩ | ⟨id, v, rfl, hv, hcs⟩
          · simp at hlt
          have lid : id < H.length := by simpa [Sc.bel] using bx
          obtain ⟨a, ha⟩ : ∃ a, L[k]? = some a := ⟨_, List.getElem?_eq_getElem hlt⟩
          have ha8 := c2 a (List.mem_of_getElem? ha)
          obtain ⟨K1, y', z', u', w', q1, g6, l3, I1⟩ := lp_do I (by omega) a ha8
          have nv1 := nv_do q1
          have hsx : ∀ o Y, (K1 ++ Y).set (H.length + 2) o = K1.set (H.length + 2) o ++ Y := fun o Y => List.set_append_left _ _ (by omega)
          have ggs : ∀ o Y, hg (K1.set (H.length + 2) o ++ Y) (H.length + 2) = o := fun o Y => by rw [hg_app (by rw [List.length_set]; omega)]; exact hg_set_same (by omega)
          have gk := I.keep id lid
          have g0 := I.orf
          have g1 := fm_le encD_l (L := L) (k := k) hlt
          have g3 := fm_get encD_l ha
          have g4 := fm_cell encD_l ha (i := 1) (by decide)
          have q2 := s_holds_eq (ptD_of I1.ok.pi) I1.ok.rp ⟨by have := I1.la; omega, by have := I1.lb; omega⟩
          rw [hold_refl] at q2
          rw [← hcs] at g1 g3 g4
          obtain ⟨ak, ao, ab⟩ := a
          have ge : encD ⟨ak, ao, ab⟩ = [.i ak, .u ao, .k .u8 ab] := rfl
          have ge1 : (encD ⟨ak, ao, ab⟩).getD 1 .any = .u ao := rfl
          rw [ge1] at g4
          rw [ge] at g3 q1
          have hlt2 : (k : Int) < (L.length : Int) := by omega
          have k0 : (0 : Int) ≤ (k : Int) := by omega
          have e1 : w64 ((k : Int) + 1) = ((k + 1 : Nat) : Int) := by rw [w64_of (by omega)]; omega
          generalize deedP t ak ao ab = t' at *
          rcases sl_shape I1.ok.rp.hx with rfl | ⟨i5, v5, n5, rfl⟩ <;> rcases sl_shape I1.ok.rp.hy with rfl | ⟨i6, v6, n6, rfl⟩
          all_goals simp only [rpC] at q1 q2 g0 g6 I1
          all_goals by_cases h8 : ao < 8#64
          all_goals (try simp (config := { maxSteps := 10000000 }) only [go_sem, List.reduceReplicate, BitVec.reduceOfInt, BitVec.reduceToNat, BitVec.reduceToInt, BitVec.reduceEq, BitVec.reduceLT, BitVec.reduceLE, BitVec.reduceAdd, BitVec.reduceSub, BitVec.reduceMul, BitVec.reduceUDiv, BitVec.reduceUMod, BitVec.reduceAnd, BitVec.reduceOr, BitVec.reduceXOr, BitVec.reduceNot, BitVec.reduceNeg, BitVec.reduceHShiftLeft, BitVec.reduceHShiftRight, Nat.reduceAdd, Nat.reduceMul, Nat.reduceSub, Nat.reduceBEq, Nat.reduceEqDiff, Nat.reduceLeDiff, Nat.reduceLT, Int.reduceLE, Int.reduceLT, Int.reduceAdd, Int.reduceSub, Int.reduceMul, Int.reduceNeg, Int.reduceToNat, Int.reduceEq, ↓reduceIte, reduceCtorEq, xl, g1, g3, g4, gk, g0, g6, hv.symm, hlt2, k0, e1, s_fits_eq, h8, q1, hsx, ggs, q2]; repeat (simp (disch := omega) only [w64_d, ipos, ineg, dpos, dneg]; try simp (config := { maxSteps := 10000000 }) only [go_sem, List.reduceReplicate, BitVec.reduceOfInt, BitVec.reduceToNat, BitVec.reduceToInt, BitVec.reduceEq, BitVec.reduceLT, BitVec.reduceLE, BitVec.reduceAdd, BitVec.reduceSub, BitVec.reduceMul, BitVec.reduceUDiv, BitVec.reduceUMod, BitVec.reduceAnd, BitVec.reduceOr, BitVec.reduceXOr, BitVec.reduceNot, BitVec.reduceNeg, BitVec.reduceHShiftLeft, BitVec.reduceHShiftRight, Nat.reduceAdd, Nat.reduceMul, Nat.reduceSub, Nat.reduceBEq, Nat.reduceEqDiff, Nat.reduceLeDiff, Nat.reduceLT, Int.reduceLE, Int.reduceLT, Int.reduceAdd, Int.reduceSub, Int.reduceMul, Int.reduceNeg, Int.reduceToNat, Int.reduceEq, ↓reduceIte, reduceCtorEq, xl, g1, g3, g4, gk, g0, g6, hv.symm, hlt2, k0, e1, s_fits_eq, h8, q1, hsx, ggs, q2]))
          all_goals (repeat' apply And.intro) <;> first | exact ⟨⟨(k + 1, _, t', y', z', _, _), by simp only; omega, I1⟩, by simp only; omega, Wk.fr (by simp [Am.get])⟩ | (refine nvc nv1 ?_; kernel_rfl) | kernel_rfl | (intro e; omega) | (intro _; kernel_rfl)
        · obtain rfl : k = L.length := by omega
          have lA : t.A.length < 1000 := by have := I.la; omega
          have lB : t.B.length < 1000 := by have := I.lb; omega
          obtain ⟨K1, K2, t1, t2, u1, v1, x2, y2, u2, v2, q1, q2, ok2, a82, b82, la2, lb2, l1, l2, kk1, kk2, su1, sv1⟩ := cl_two I.ok lA lB I.a8 I.b8 ⟨k1, o1, b1⟩ ⟨k2, o2, b2⟩ c3 c4
          have l3 := I.len
          have qc := s_uclo_eq (ptD_of I.ok.pi) ⟨by omega, by omega⟩
          have okc := cl_ok I.ok
          have qs := s_usame_eq (ptD_of okc.pi) (ptD_of (pi_app (X := [.own (poC (poOf t (.sl (K.length + 1) 0 t.A.length t.A.length) (.sl (K.length + 2) 0 t.B.length t.B.length))), .vec 1 (t.A.flatMap enc8), .vec 1 (t.B.flatMap enc8)]) I.ok.pi)) ⟨I.a8, I.b8, I.a8, I.b8⟩
          rw [same_refl] at qs
          have gb : ∀ X, hg (K ++ X) H.length = .own [.i k1, .u o1, .k .u8 b1, .i k2, .u o2, .k .u8 b2] := fun X => by rw [hg_app (by omega)]; exact I.ob
          have gr : ∀ X, hg (K ++ X) (H.length + 2) = .own (rpC t u w) := fun X => by rw [hg_app (by omega)]; exact I.orf
          have gb1 : ∀ X, hg (K1 ++ X) H.length = .own [.i k1, .u o1, .k .u8 b1, .i k2, .u o2, .k .u8 b2] := fun X => by rw [hg_app (by omega), kk1 _ (by omega)]; exact I.ob
          have gr2 : ∀ X, hg (K2 ++ X) (H.length + 2) = .own (rpC t u w) := fun X => by rw [hg_app (by omega), kk2 _ (by omega)]; exact I.orf
          have lt : ∀ i, i = H.length + 1 ∨ sid y = some i ∨ sid z = some i ∨ sid u = some i ∨ sid w = some i → i < K.length := fun i hi => by
            rcases hi with h | h | h | h | h
            · omega
            · exact (bsx_lt I.ok.pi.hx h).1
            · exact (bsx_lt I.ok.pi.hy h).1
            · exact sid_lt I.ok.rp.hx I.ok.bu h
            · exact sid_lt I.ok.rp.hy I.ok.bv h
          have okp := do_app (X := [AObj.own (rpC t2 u2 v2)]) (do_keep I.ok l2 fun i hi => kk2 i (lt i hi))
          have okz := do_app (X := [AObj.own (rpC t2 u2 v2)]) ok2
          have h1 := s_holds_eq (ptD_of okz.pi) okz.rp ⟨la2, lb2⟩
          have h2 := s_holds_eq (ptD_of okp.pi) okp.rp ⟨by omega, by omega⟩
          rw [hold_refl] at h1 h2
          have h3 := s_usame_eq (ptD_of okz.pi) (ptD_of okp.pi) ⟨a82, b82, I.a8, I.b8⟩
          have h4 := s_rsame_eq okp.rp okz.rp
          rw [same_TB] at h3
          have fin : subH H (K2 ++ [AObj.own (rpC t2 u2 v2)]) := subH_of (by simp; omega) fun i hi => by rw [hg_app (by omega), kk2 i (by omega)]; exact I.keep i hi
          generalize sameB t t2 = qq at h3 h4
          simp only [encD] at q1 q2
          have gob := I.ob
          have gor := I.orf
          rcases su1 with rfl | ⟨i3, v3, n3, rfl⟩ <;> rcases sv1 with rfl | ⟨i4, v4, n4, rfl⟩ <;> rcases sl_shape ok2.rp.hx with rfl | ⟨i5, v5, n5, rfl⟩ <;> rcases sl_shape ok2.rp.hy with rfl | ⟨i6, v6, n6, rfl⟩
          all_goals simp only [rpC] at q1 q2 gr gr2 h1 h2 h3 h4 fin gor
          all_goals (try simp (config := { maxSteps := 10000000 }) only [go_sem, List.reduceReplicate, BitVec.reduceOfInt, BitVec.reduceToNat, BitVec.reduceToInt, BitVec.reduceEq, BitVec.reduceLT, BitVec.reduceLE, BitVec.reduceAdd, BitVec.reduceSub, BitVec.reduceMul, BitVec.reduceUDiv, BitVec.reduceUMod, BitVec.reduceAnd, BitVec.reduceOr, BitVec.reduceXOr, BitVec.reduceNot, BitVec.reduceNeg, BitVec.reduceHShiftLeft, BitVec.reduceHShiftRight, Nat.reduceAdd, Nat.reduceMul, Nat.reduceSub, Nat.reduceBEq, Nat.reduceEqDiff, Nat.reduceLeDiff, Nat.reduceLT, Int.reduceLE, Int.reduceLT, Int.reduceAdd, Int.reduceSub, Int.reduceMul, Int.reduceNeg, Int.reduceToNat, Int.reduceEq, ↓reduceIte, reduceCtorEq, xl, gob, gor, qc, qs, gb, gr, gb1, gr2, q1, q2, h1, h2, h3, h4, s_live17_eq]; repeat (simp (disch := omega) only [w64_d, ipos, ineg, dpos, dneg]; try simp (config := { maxSteps := 10000000 }) only [go_sem, List.reduceReplicate, BitVec.reduceOfInt, BitVec.reduceToNat, BitVec.reduceToInt, BitVec.reduceEq, BitVec.reduceLT, BitVec.reduceLE, BitVec.reduceAdd, BitVec.reduceSub, BitVec.reduceMul, BitVec.reduceUDiv, BitVec.reduceUMod, BitVec.reduceAnd, BitVec.reduceOr, BitVec.reduceXOr, BitVec.reduceNot, BitVec.reduceNeg, BitVec.reduceHShiftLeft, BitVec.reduceHShiftRight, Nat.reduceAdd, Nat.reduceMul, Nat.reduceSub, Nat.reduceBEq, Nat.reduceEqDiff, Nat.reduceLeDiff, Nat.reduceLT, Int.reduceLE, Int.reduceLT, Int.reduceAdd, Int.reduceSub, Int.reduceMul, Int.reduceNeg, Int.reduceToNat, Int.reduceEq, ↓reduceIte, reduceCtorEq, xl, gob, gor, qc, qs, gb, gr, gb1, gr2, q1, q2, h1, h2, h3, h4, s_live17_eq]))
          all_goals (repeat' apply And.intro) <;> first | exact fin | kernel_rfl | (intro e; omega) | (intro _; kernel_rfl) | (simp; done)
      · simp at h
    · simp at h
  · simp at h
theorem sig_uplays (avs : List AV) (H : AH) (h : SigA [.sl [.n .i64, .n .u64, .n .u8], .fl true [.n .i64, .n .u64, .n .u8, .n .i64, .n .u64, .n .u8]] avs H) : s_uplays avs H = some (.c (.b true)) := by
  obtain ⟨x, r1, rfl, h2, l, hl, hp, hn⟩ := sig_row (f := encD) (w := 3) (dc := dcD) (p := fun d => by8 d.b) (fun cs hcs => by
    obtain ⟨a, _, rfl, ka, g⟩ := fit_cons hcs
    obtain ⟨b, _, rfl, kb, g⟩ := fit_cons g
    obtain ⟨c, _, rfl, kc, g⟩ := fit_cons g
    obtain rfl := fit_nil g
    obtain ⟨a, rfl, _⟩ := fk_i ka
    obtain ⟨b, rfl⟩ := fk_u kb
    obtain ⟨c, rfl, h1, h2⟩ := fk_8 kc
    exact ⟨⟨a, b, c⟩, rfl, h1, h2⟩) encD_l dcD_e h
  obtain ⟨g, r2, rfl, k0, h3⟩ := sig_g h2
  obtain ⟨a, _, rfl, ka, g⟩ := fit_cons k0
  obtain ⟨b, _, rfl, kb, g⟩ := fit_cons g
  obtain ⟨c, _, rfl, kc, g⟩ := fit_cons g
  obtain ⟨d, _, rfl, kd, g⟩ := fit_cons g
  obtain ⟨e, _, rfl, ke, g⟩ := fit_cons g
  obtain ⟨f, _, rfl, kf, g⟩ := fit_cons g
  obtain rfl := fit_nil g
  obtain ⟨a, rfl, _⟩ := fk_i ka
  obtain ⟨b, rfl⟩ := fk_u kb
  obtain ⟨c, rfl, c1, c2⟩ := fk_8 kc
  obtain ⟨d, rfl, _⟩ := fk_i kd
  obtain ⟨e, rfl⟩ := fk_u ke
  obtain ⟨f, rfl, f1, f2⟩ := fk_8 kf
  obtain rfl := sig_nil h3
  simp only [s_uplays, hl]
  rw [if_pos ⟨hn, hp, ⟨c1, c2⟩, ⟨f1, f2⟩⟩]
end
end Go.Proofs.Ytbjkcjpcnbephaa
