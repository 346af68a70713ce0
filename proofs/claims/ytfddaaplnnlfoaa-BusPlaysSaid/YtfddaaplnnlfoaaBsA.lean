/- Layer 18: a bus: what stands in it, lines, what is read and written: contracts. -/
import Derived.Test.YtfddaaplnnlfoaaQC
import Derived.Test.YtfddaaplnnlfoaaU21
import Derived.Test.YtfddaaplnnlfoaaCh
import Derived.Test.YtfddaaplnnlfoaaAsk
namespace Go.Proofs.Ytfddaaplnnlfoaa
open Go.Am
set_option linter.unusedSimpArgs false
set_option linter.unusedVariables false
noncomputable section

/-! ## XBs1 -/
section
/-- a bus but for its port -/
structure Bs where
  n : Int
  c : Ck
  k : Pk
def busC (pid : Nat) (b : Bs) : List Sc := .p pid 0 0 :: .i b.n :: (ckC b.c ++ pkC b.k)
structure BsOk (b : Bs) : Prop where
  c : CkOk b.c
  k : PkOk b.k
  n0 : 1 ≤ b.n
  n1 : b.n ≤ 8
  nc : b.c.n = b.n
  nk : b.k.n = b.n
theorem busC_l {pid : Nat} {b : Bs} (h : BsOk b) : (busC pid b).length = 88 := by simp [busC, ckC_l h.c, pkC_l h.k]
theorem busC_inj {p q : Nat} {a b : Bs} (ha : BsOk a) (hb : BsOk b) (h : busC p a = busC q b) : p = q ∧ a = b := by
  simp only [busC, List.cons.injEq, Sc.p.injEq, Sc.i.injEq, and_true] at h
  obtain ⟨h1, h2, h3⟩ := h
  obtain ⟨h4, h5⟩ := List.append_inj h3 (by rw [ckC_l ha.c, ckC_l hb.c])
  have e1 := ck_enc.i _ _ ha.c hb.c h4
  have e2 := pk_enc.i _ _ ha.k hb.k h5
  refine ⟨h1, ?_⟩
  cases a; cases b
  simp only at h2 e1 e2
  subst h2 e1 e2
  rfl
/-- all of a bus, and where it stands -/
structure Bd where
  id : Nat
  pid : Nat
  b : Bs
  t : Pt
  x : Sc
  y : Sc
structure BI (K : AH) (D : Bd) : Prop where
  ho : hg K D.id = .own (busC D.pid D.b)
  ok : BsOk D.b
  pi : PI K D.pid D.t D.x D.y
theorem bsx_uniq {K : AH} {x : Sc} {A B : List Int} (h1 : bsx K x A) (h2 : bsx K x B) : A = B := by
  have a := bsx_slD h1
  rw [bsx_slD h2] at a
  exact (Option.some.inj a).symm
theorem pi_uniq {K : AH} {h : Nat} {t u : Pt} {x y x' y' : Sc} (h1 : PI K h t x y) (h2 : PI K h u x' y') : t = u ∧ x = x' ∧ y = y' := by
  have e := h1.hp
  rw [h2.hp] at e
  simp only [AObj.own.injEq, poC, poOf, List.cons.injEq, Sc.k.injEq, Sc.b.injEq, true_and, and_true] at e
  obtain ⟨e1, e2, e3, e4, e5, e6, e7, e8, e9, e10, e11⟩ := e
  subst e10 e11
  have a := bsx_uniq h1.hx h2.hx
  have b := bsx_uniq h1.hy h2.hy
  refine ⟨?_, rfl, rfl⟩
  cases t; cases u
  simp only at e1 e2 e3 e4 e5 e6 e7 e8 e9 a b
  subst e1 e2 e3 e4 e5 e6 e7 e8 e9 a b
  rfl
theorem BI.uniq {K : AH} {D E : Bd} (h1 : BI K D) (h2 : BI K E) (h : D.id = E.id) : D = E := by
  have e := h1.ho
  rw [h, h2.ho] at e
  obtain ⟨e1, e2⟩ := busC_inj h2.ok h1.ok (AObj.own.inj e)
  have p := h1.pi
  rw [← e1] at p
  obtain ⟨e3, e4, e5⟩ := pi_uniq p h2.pi
  cases D; cases E
  simp only at h e1 e2 e3 e4 e5
  subst h e1 e2 e3 e4 e5
  rfl
variable {K : AH} {D : Bd}
theorem BI.lid (h : BI K D) : D.id < K.length := hg_lt (by rw [h.ho]; rfl)
theorem BI.lpid (h : BI K D) : D.pid < K.length := h.pi.lt
theorem BI.ne (h : BI K D) : D.id ≠ D.pid := fun e => by
  have a := h.pi.hp
  rw [← e, h.ho] at a
  have := congrArg List.length (AObj.own.inj a)
  rw [busC_l h.ok] at this
  simp [poC] at this
theorem BI.nx (h : BI K D) : sid D.x ≠ some D.id := fun e => by
  have := (bsx_lt h.pi.hx e).2; rw [h.ho] at this; simp at this
theorem BI.ny (h : BI K D) : sid D.y ≠ some D.id := fun e => by
  have := (bsx_lt h.pi.hy e).2; rw [h.ho] at this; simp at this
theorem BI.l (h : BI K D) : (busC D.pid D.b).length = 88 := busC_l h.ok
theorem BI.ck (h : BI K D) : ckQ K (.p D.id 2 0) = some D.b.c := ckQ_of (A := [.p D.pid 0 0, .i D.b.n]) (B := pkC D.b.k) (by rw [h.ho]; rfl) h.ok.c
theorem BI.pk (h : BI K D) : pkQ K (.p D.id 20 0) = some D.b.k := by
  have := pkQ_of (H := K) (id := D.id) (A := .p D.pid 0 0 :: .i D.b.n :: ckC D.b.c) (B := []) (c := D.b.k) (by rw [h.ho, List.append_nil]; rfl) h.ok.k
  rw [show (Sc.p D.pid 0 0 :: .i D.b.n :: ckC D.b.c).length = 20 by simp [ckC_l h.ok.c]] at this
  exact this
theorem BI.ckS (h : BI K D) (d : Ck) : ckS K (.p D.id 2 0) d = K.set D.id (.own (busC D.pid { D.b with c := d })) := by
  have := setAt_of (enc := ckC) (n := 18) (H := K) (id := D.id) (A := [.p D.pid 0 0, .i D.b.n]) (B := pkC D.b.k) (a := D.b.c) (b := d) (by rw [h.ho]; rfl) (ckC_l h.ok.c)
  exact this
theorem BI.pkS (h : BI K D) (d : Pk) : pkS K (.p D.id 20 0) d = K.set D.id (.own (busC D.pid { D.b with k := d })) := by
  have := setAt_of (enc := pkC) (n := 68) (H := K) (id := D.id) (A := .p D.pid 0 0 :: .i D.b.n :: ckC D.b.c) (B := []) (a := D.b.k) (b := d) (by rw [h.ho, List.append_nil]; rfl) (pkC_l h.ok.k)
  rw [show (Sc.p D.pid 0 0 :: .i D.b.n :: ckC D.b.c).length = 20 by simp [ckC_l h.ok.c], List.append_nil] at this
  exact this
theorem BI.app (h : BI K D) (X : AH) : BI (K ++ X) D := ⟨by rw [hg_app h.lid]; exact h.ho, h.ok, pi_app h.pi⟩
theorem pi_keep {K K' : AH} {h : Nat} {t : Pt} {x y : Sc} (hP : PI K h t x y) (h0 : hg K' h = hg K h) (h1 : ∀ i, sid x = some i → hg K' i = hg K i) (h2 : ∀ i, sid y = some i → hg K' i = hg K i) : PI K' h t x y :=
  ⟨by rw [h0]; exact hP.hp, bsx_keep hP.hx h1, bsx_keep hP.hy h2, hP.ne⟩
/-- the rest of the bus is another one -/
theorem BI.set (h : BI K D) {b : Bs} (hb : BsOk b) : BI (K.set D.id (.own (busC D.pid b))) { D with b := b } :=
  ⟨hg_set_same h.lid, hb, pi_keep h.pi (hg_set_ne' h.ne) (fun i hi => hg_set_ne' (fun e => h.nx (by rw [e]; exact hi))) (fun i hi => hg_set_ne' (fun e => h.ny (by rw [e]; exact hi)))⟩
/-- an object that is no part of the bus is another one -/
theorem BI.other (h : BI K D) {j : Nat} {o : AObj} (h0 : j ≠ D.id) (h1 : j ≠ D.pid) (h2 : sid D.x ≠ some j) (h3 : sid D.y ≠ some j) : BI (K.set j o) D :=
  ⟨by rw [hg_set_ne' h0]; exact h.ho, h.ok, pi_keep h.pi (hg_set_ne' h1) (fun i hi => hg_set_ne' (fun e => h2 (by rw [e]; exact hi))) (fun i hi => hg_set_ne' (fun e => h3 (by rw [e]; exact hi)))⟩
/-- what isn't the bus stays -/
structure BK (K K' : AH) (D D' : Bd) : Prop where
  id : D'.id = D.id
  pid : D'.pid = D.pid
  len : K.length ≤ K'.length
  keep : ∀ k, k < K.length → k ≠ D.id → k ≠ D.pid → sid D.x ≠ some k → sid D.y ≠ some k → hg K' k = hg K k
  fx : ∀ i, sid D'.x = some i → sid D.x = some i ∨ K.length ≤ i
  fy : ∀ i, sid D'.y = some i → sid D.y = some i ∨ K.length ≤ i
theorem BK.refl : BK K K D D := ⟨rfl, rfl, Nat.le_refl _, fun _ _ _ _ _ _ => rfl, fun _ h => .inl h, fun _ h => .inl h⟩
theorem BK.trans {K1 K2 : AH} {D1 D2 : Bd} (h1 : BK K K1 D D1) (h2 : BK K1 K2 D1 D2) : BK K K2 D D2 := by
  have hl := h1.len
  refine ⟨h2.id.trans h1.id, h2.pid.trans h1.pid, Nat.le_trans h1.len h2.len, fun k k0 k1 k2 k3 k4 => ?_, fun i hi => ?_, fun i hi => ?_⟩
  · rw [h2.keep k (by omega) (by rw [h1.id]; exact k1) (by rw [h1.pid]; exact k2) (fun e => (h1.fx k e).elim k3 (by omega)) (fun e => (h1.fy k e).elim k4 (by omega))]
    exact h1.keep k k0 k1 k2 k3 k4
  · rcases h2.fx i hi with e | e
    · exact h1.fx i e
    · exact .inr (by omega)
  · rcases h2.fy i hi with e | e
    · exact h1.fy i e
    · exact .inr (by omega)
/-- out of a longer heap -/
theorem BK.cut {X K1 : AH} {D1 : Bd} (h : BK (K ++ X) K1 D D1) : BK K K1 D D1 := by
  have hl := h.len
  simp only [List.length_append] at hl
  refine ⟨h.id, h.pid, by omega, fun k k0 k1 k2 k3 k4 => ?_, fun i hi => ?_, fun i hi => ?_⟩
  · rw [h.keep k (by simp only [List.length_append]; omega) k1 k2 k3 k4, hg_app k0]
  · rcases h.fx i hi with e | e
    · exact .inl e
    · simp only [List.length_append] at e; exact .inr (by omega)
  · rcases h.fy i hi with e | e
    · exact .inl e
    · simp only [List.length_append] at e; exact .inr (by omega)
theorem BK.app {X : AH} : BK K (K ++ X) D D := ⟨rfl, rfl, by simp, fun k k0 _ _ _ _ => hg_app k0, fun _ h => .inl h, fun _ h => .inl h⟩
theorem BI.setK (h : BI K D) (b : Bs) : BK K (K.set D.id (.own (busC D.pid b))) D { D with b := b } :=
  ⟨rfl, rfl, by simp, fun k _ k1 _ _ _ => hg_set_ne' (Ne.symm k1), fun _ h => .inl h, fun _ h => .inl h⟩
/-- what the port does -/
theorem BI.port (h : BI K D) {K' : AH} {t' : Pt} {x' y' : Sc} (hP : PI K' D.pid t' x' y') (hk : Kp K K' D.pid D.x D.y x' y') : BI K' { D with t := t', x := x', y := y' } ∧ BK K K' D { D with t := t', x := x', y := y' } :=
  ⟨⟨by rw [hk.keep _ h.lid h.ne h.nx h.ny]; exact h.ho, h.ok, hP⟩, ⟨rfl, rfl, hk.len, fun k k0 _ k2 k3 k4 => hk.keep k k0 k2 k3 k4, hk.fx, hk.fy⟩⟩
/-- an object behind all is made another one -/
theorem BK.other {K1 : AH} {D1 : Bd} (h : BK K K1 D D1) {j : Nat} {o : AObj} (hj : K.length ≤ j) : BK K (K1.set j o) D D1 :=
  ⟨h.id, h.pid, by simpa using h.len, fun k k0 k1 k2 k3 k4 => by rw [hg_set_ne' (by omega)]; exact h.keep k k0 k1 k2 k3 k4, h.fx, h.fy⟩
/-! ### where an address leads -/
structure Bp where
  d : Int
  o : BitVec 64
  s : Int
def spC (p : Bp) : List Sc := [.i p.d, .u p.o, .i p.s]
theorem spC_inj {p q : Bp} (h : spC p = spC q) : p = q := by
  simp only [spC, List.cons.injEq, Sc.i.injEq, Sc.u.injEq, and_true] at h
  obtain ⟨h1, h2, h3⟩ := h
  cases p; cases q
  simp only at h1 h2 h3
  subst h1 h2 h3
  rfl
def cFit (n : Int) (o : BitVec 64) (s : Int) : Bool := !decide ((ckAt (ckN n).n o s).k = 0)
def pFit (n : Int) (o : BitVec 64) (s : Int) : Bool := !decide ((plAt (pkN n).n o s).k = 0)
def bSp (n : Int) (a : BitVec 64) (s : Int) : Bp :=
  if 33554432#64 ≤ a ∧ cFit n (a - 33554432#64) s = true then ⟨1, a - 33554432#64, s⟩
  else if 201326592#64 ≤ a ∧ pFit n (a - 201326592#64) s = true then ⟨2, a - 201326592#64, s⟩
  else if 268435456#64 ≤ a ∧ (1 ≤ n ∧ n ≤ 8) ∧ (a - 268435456#64 < 8#64 ∧ s = 1) then ⟨3, a - 268435456#64, s⟩
  else ⟨0, 0#64, 0⟩
theorem cfits_q {n : Int} {o : BitVec 64} {s : Int} : s_cfits [.c (.i n), .c (.u o), .c (.i s)] = some (.c (.b (cFit n o s))) := rfl
theorem pfits_q {n : Int} {o : BitVec 64} {s : Int} : s_pfits [.c (.i n), .c (.u o), .c (.i s)] = some (.c (.b (pFit n o s))) := rfl
theorem bSp_c (n : Int) (a : BitVec 64) (s : Int) : bSp n a s = (if 33554432#64 ≤ a ∧ cFit n (a - 33554432#64) s = true then ⟨1, a - 33554432#64, s⟩
  else if 201326592#64 ≤ a ∧ pFit n (a - 201326592#64) s = true then ⟨2, a - 201326592#64, s⟩
  else if 268435456#64 ≤ a ∧ (1 ≤ n ∧ n ≤ 8) ∧ (a - 268435456#64 < 8#64 ∧ s = 1) then ⟨3, a - 268435456#64, s⟩
  else ⟨0, 0#64, 0⟩) := rfl
def s_bfind (args : List AV) : Option AV :=
  match args with
  | [.c (.i n), .c (.u a), .c (.i s)] => some (.g (spC (bSp n a s)))
  | _ => none
theorem s_bfind_eq {n a s} : s_bfind [.c (.i n), .c (.u a), .c (.i s)] = some (.g (spC (bSp n a s))) := rfl
set_option maxRecDepth 100000 in
set_option maxHeartbeats 2000000 in
theorem ok_bfind : PuOk Try.prog 28 s_bfind := by
  refine pu_ok (tab := [(61, .pu s_cfits), (62, .pu s_pfits), (63, .pu s_fits)]) hmix (TabOk.cons (e := .pu s_cfits) ok_cfits (TabOk.cons (e := .pu s_pfits) ok_pfits (TabOk.cons (e := .pu s_fits) ok_fits TabOk.nil))) Try.func28 rfl Try.results28 Try.ntmps28 (by kernel_rfl) (by kernel_rfl) ?_
  intro args v h
  unfold s_bfind at h
  split at h
  · rename_i n a s
    simp only [Option.some.injEq] at h; subst h
    refine ⟨by simp only [List.length_cons, List.length_nil]; decide, rfl, rfl, ?_⟩
    have p1 := cfits_q (n := n) (o := a - 33554432#64) (s := s)
    have p2 := pfits_q (n := n) (o := a - 201326592#64) (s := s)
    have p3 := s_fits_eq (off := a - 268435456#64) (n := s)
    rw [bSp_c]
    generalize cFit n (a - 33554432#64) s = C at *
    generalize pFit n (a - 201326592#64) s = Q at *
    have t1 : ((33554432#64 ≤ a) = True ∧ C = true) ∨ ((33554432#64 ≤ a) = True ∧ C = false) ∨ (33554432#64 ≤ a) = False := by
      rcases Classical.propComplete (33554432#64 ≤ a) with h | h <;> cases C <;> simp [h]
    have t2 : ((201326592#64 ≤ a) = True ∧ Q = true) ∨ ((201326592#64 ≤ a) = True ∧ Q = false) ∨ (201326592#64 ≤ a) = False := by
      rcases Classical.propComplete (201326592#64 ≤ a) with h | h <;> cases Q <;> simp [h]
    have t3 : (268435456#64 ≤ a) = False ∨ ((268435456#64 ≤ a) = True ∧ ¬ 1 ≤ n) ∨ ((268435456#64 ≤ a) = True ∧ 1 ≤ n ∧ ¬ n ≤ 8) ∨ ((268435456#64 ≤ a) = True ∧ 1 ≤ n ∧ n ≤ 8) := by
      rcases Classical.propComplete (268435456#64 ≤ a) with h | h <;> by_cases h1 : 1 ≤ n <;> by_cases h2 : n ≤ 8 <;> simp [h, h1, h2]
    rcases t1 with ⟨a1, rfl⟩ | ⟨a1, rfl⟩ | a1
    · (try simp (config := { maxSteps := 10000000 }) only [go_sem, seval, p1, a1, spC, true_and, and_true, false_and, and_false, if_true, if_false, Bool.false_eq_true]; repeat (simp (disch := omega) only [w64_d, ipos, ineg, dpos, dneg]; try simp (config := { maxSteps := 10000000 }) only [go_sem, seval, p1, a1, spC, true_and, and_true, false_and, and_false, if_true, if_false, Bool.false_eq_true]))
    all_goals rcases t2 with ⟨a2, rfl⟩ | ⟨a2, rfl⟩ | a2
    any_goals ((try simp (config := { maxSteps := 10000000 }) only [go_sem, seval, p1, p2, a1, a2, spC, true_and, and_true, false_and, and_false, if_true, if_false, Bool.false_eq_true]; repeat (simp (disch := omega) only [w64_d, ipos, ineg, dpos, dneg]; try simp (config := { maxSteps := 10000000 }) only [go_sem, seval, p1, p2, a1, a2, spC, true_and, and_true, false_and, and_false, if_true, if_false, Bool.false_eq_true])); done)
    all_goals rcases t3 with a3 | ⟨a3, n1⟩ | ⟨a3, n1, n2⟩ | ⟨a3, n1, n2⟩
    any_goals ((try simp (config := { maxSteps := 10000000 }) only [go_sem, seval, p1, p2, a1, a2, a3, n1, n2, spC, true_and, and_true, false_and, and_false, if_true, if_false, Bool.false_eq_true]; repeat (simp (disch := omega) only [w64_d, ipos, ineg, dpos, dneg]; try simp (config := { maxSteps := 10000000 }) only [go_sem, seval, p1, p2, a1, a2, a3, n1, n2, spC, true_and, and_true, false_and, and_false, if_true, if_false, Bool.false_eq_true])); done)
    any_goals ((try simp (config := { maxSteps := 10000000 }) only [go_sem, seval, p1, p2, a1, a2, a3, n1, spC, true_and, and_true, false_and, and_false, if_true, if_false, Bool.false_eq_true]; repeat (simp (disch := omega) only [w64_d, ipos, ineg, dpos, dneg]; try simp (config := { maxSteps := 10000000 }) only [go_sem, seval, p1, p2, a1, a2, a3, n1, spC, true_and, and_true, false_and, and_false, if_true, if_false, Bool.false_eq_true])); done)
    any_goals ((try simp (config := { maxSteps := 10000000 }) only [go_sem, seval, p1, p2, a1, a2, a3, spC, true_and, and_true, false_and, and_false, if_true, if_false, Bool.false_eq_true]; repeat (simp (disch := omega) only [w64_d, ipos, ineg, dpos, dneg]; try simp (config := { maxSteps := 10000000 }) only [go_sem, seval, p1, p2, a1, a2, a3, spC, true_and, and_true, false_and, and_false, if_true, if_false, Bool.false_eq_true])); done)
    all_goals rcases Classical.propComplete (a - 268435456#64 < 8#64) with a4 | a4
    all_goals rcases Classical.propComplete (s = 1) with s1 | s1
    all_goals (try simp (config := { maxSteps := 10000000 }) only [go_sem, seval, p1, p2, p3, a1, a2, a3, a4, n1, n2, s1, spC, true_and, and_true, false_and, and_false, if_true, if_false, Bool.false_eq_true]; repeat (simp (disch := omega) only [w64_d, ipos, ineg, dpos, dneg]; try simp (config := { maxSteps := 10000000 }) only [go_sem, seval, p1, p2, p3, a1, a2, a3, a4, n1, n2, s1, spC, true_and, and_true, false_and, and_false, if_true, if_false, Bool.false_eq_true]))
  · simp at h
def s_bfits (args : List AV) : Option AV :=
  match args with
  | [.c (.i n), .c (.u a), .c (.i s)] => some (.c (.b (!decide ((bSp n a s).d = 0))))
  | _ => none
theorem s_bfits_eq {n a s} : s_bfits [.c (.i n), .c (.u a), .c (.i s)] = some (.c (.b (!decide ((bSp n a s).d = 0)))) := rfl
set_option maxRecDepth 100000 in
set_option maxHeartbeats 2000000 in
theorem ok_bfits : PuOk Try.prog 17 s_bfits := by
  refine pu_ok (tab := [(28, .pu s_bfind)]) hmix (TabOk.cons (e := .pu s_bfind) ok_bfind TabOk.nil) Try.func17 rfl Try.results17 Try.ntmps17 (by kernel_rfl) (by kernel_rfl) ?_
  intro args v h
  unfold s_bfits at h
  split at h
  · rename_i n a s
    simp only [Option.some.injEq] at h; subst h
    refine ⟨by simp only [List.length_cons, List.length_nil]; decide, rfl, rfl, ?_⟩
    have e : (bSp n a s).d = 0 → bSp n a s = ⟨0, 0#64, 0⟩ := fun h => by
      unfold bSp at h ⊢
      repeat' split at h
      all_goals simp at h
      rename_i h1 h2 h3
      rw [if_neg h1, if_neg h2, if_neg h3]
    by_cases h : (bSp n a s).d = 0
    · have e := e h
      (try simp (config := { maxSteps := 10000000 }) only [go_sem, seval, s_bfind_eq, e, spC]; repeat (simp (disch := omega) only [w64_d, ipos, ineg, dpos, dneg]; try simp (config := { maxSteps := 10000000 }) only [go_sem, seval, s_bfind_eq, e, spC]))
    · (try simp (config := { maxSteps := 10000000 }) only [go_sem, seval, s_bfind_eq, spC, h]; repeat (simp (disch := omega) only [w64_d, ipos, ineg, dpos, dneg]; try simp (config := { maxSteps := 10000000 }) only [go_sem, seval, s_bfind_eq, spC, h]))
  · simp at h
end

/-! ## XBs2 -/
section
variable {H : AH} {D : Bd}

/-! ### harts stay -/
theorem ckW_n (c : Ck) (a : Ca) (z : Int) (v : BitVec 64) : (ckW c a z v).n = c.n := by
  unfold ckW ckPut
  repeat' split
  all_goals rfl
theorem ckT_n (c : Ck) (n : Int) : (ckT c n).n = c.n := by
  unfold ckT
  split <;> rfl
theorem plR_n (c : Pk) (a : Pa) : (plR c a).n = c.n := by
  unfold plR
  split <;> rfl
theorem plW_n (c : Pk) (a : Pa) (v : BitVec 64) : (plW c a v).n = c.n := by
  unfold plW setl
  repeat' split
  all_goals rfl
theorem plWire_n (c : Pk) (s : Int) (on : Bool) : (plWire c s on).n = c.n := by
  unfold plWire setl
  repeat' split
  all_goals rfl
theorem BsOk.ck {b : Bs} (h : BsOk b) {c : Ck} (hc : CkOk c) (hn : c.n = b.c.n) : BsOk { b with c := c } := ⟨hc, h.k, h.n0, h.n1, hn.trans h.nc, h.nk⟩
theorem BsOk.pk {b : Bs} (h : BsOk b) {k : Pk} (hk : PkOk k) (hn : k.n = b.k.n) : BsOk { b with k := k } := ⟨h.c, hk, h.n0, h.n1, h.nc, hn.trans h.nk⟩
/-! ### what a hart is told -/
def bLn (b : Bs) (h : Int) : BitVec 64 :=
  if h < 0 ∨ b.n ≤ h then 0#64 else
    (if plLine b.k (2 * h + 1) = true then (if plLine b.k (2 * h) = true then ckL b.c h ||| 2048#64 else ckL b.c h) ||| 512#64 else (if plLine b.k (2 * h) = true then ckL b.c h ||| 2048#64 else ckL b.c h))
def q_blines (args : List AV) (H : AH) (v : AV) : Prop := (∀ h, args = [.c .nilp, .c (.i h)] → v = .c (.u 0#64)) ∧ ∀ D h, args = [.c (.p D.id 0 0), .c (.i h)] → BI H D → v = .c (.u (bLn D.b h))
def s_blines : List AV → AH → Option AV := frQ Try.prog [(34, .fq s_clines), (35, .fq s_pline)] 9 q_blines
set_option maxRecDepth 100000 in
set_option maxHeartbeats 2000000 in
theorem ok_blines : FpOk Try.prog 9 (fun args H => (s_blines args H).map fun v => (v, H)) := frQ_ok hmix (TabOk.cons (e := .fq s_clines) ok_clines (TabOk.cons (e := .fq s_pline) ok_pline TabOk.nil)) Try.func9 rfl Try.results9 Try.ntmps9 (by kernel_rfl) (by kernel_rfl)
theorem s_blines_nil (h : Int) : s_blines [.c .nilp, .c (.i h)] H = some (.c (.u 0#64)) := by
  have : ∃ v, s_blines [.c .nilp, .c (.i h)] H = some v ∧ q_blines [.c .nilp, .c (.i h)] H v := by
    unfold s_blines
    apply frQ_ex (v := .c (.u 0#64)) Try.func9 rfl Try.results9 Try.ntmps9 (by simp only [List.length_cons, List.length_nil]; decide)
    · exact fun _ _ => rfl
    · intro _ _
      (try simp (config := { maxSteps := 10000000 }) only [go_sem, seval]; repeat (simp (disch := omega) only [w64_d, ipos, ineg, dpos, dneg]; try simp (config := { maxSteps := 10000000 }) only [go_sem, seval]))
      exact subH_refl _
    · refine ⟨fun _ _ => rfl, fun E k he hE => ?_⟩
      simp at he
  obtain ⟨v, h1, h2⟩ := this
  rw [h1, h2.1 h rfl]
theorem s_blines_eq (hB : BI H D) (h : Int) : s_blines [.c (.p D.id 0 0), .c (.i h)] H = some (.c (.u (bLn D.b h))) := by
  have : ∃ v, s_blines [.c (.p D.id 0 0), .c (.i h)] H = some v ∧ q_blines [.c (.p D.id 0 0), .c (.i h)] H v := by
    unfold s_blines
    apply frQ_ex (v := .c (.u (bLn D.b h))) Try.func9 rfl Try.results9 Try.ntmps9 (by simp only [List.length_cons, List.length_nil]; decide)
    · exact fun _ _ => rfl
    · intro _ _
      have ho := hB.ho
      have ll := hB.l
      have d0 : (busC D.pid D.b).getD 0 .any = .p D.pid 0 0 := rfl
      have d1 : (busC D.pid D.b).getD 1 .any = .i D.b.n := rfl
      have n8 := hB.ok.n1
      have cl := s_clines_eq hB.ck (n := h)
      have pl := fun k => s_pline_eq hB.pk (k := k)
      by_cases h0 : h < 0
      · have e : bLn D.b h = 0#64 := if_pos (.inl h0)
        rw [e]
        (try simp (config := { maxSteps := 10000000 }) only [go_sem, seval, h0]; repeat (simp (disch := omega) only [w64_d, ipos, ineg, dpos, dneg]; try simp (config := { maxSteps := 10000000 }) only [go_sem, seval, h0]))
        exact subH_refl _
      by_cases h1 : D.b.n ≤ h
      · have e : bLn D.b h = 0#64 := if_pos (.inr h1)
        rw [e]
        (try simp (config := { maxSteps := 10000000 }) only [go_sem, seval, ho, ll, d1, h0, h1]; repeat (simp (disch := omega) only [w64_d, ipos, ineg, dpos, dneg]; try simp (config := { maxSteps := 10000000 }) only [go_sem, seval, ho, ll, d1, h0, h1]))
        exact subH_refl _
      have e1 : w64 (2 * h) = 2 * h := w64_d (by omega) (by omega)
      have e2 : w64 (2 * h + 1) = 2 * h + 1 := w64_d (by omega) (by omega)
      have pl1 := pl (2 * h)
      have pl2 := pl (2 * h + 1)
      have e : bLn D.b h = (if plLine D.b.k (2 * h + 1) = true then (if plLine D.b.k (2 * h) = true then ckL D.b.c h ||| 2048#64 else ckL D.b.c h) ||| 512#64 else (if plLine D.b.k (2 * h) = true then ckL D.b.c h ||| 2048#64 else ckL D.b.c h)) := if_neg (by omega)
      rw [e]
      cases h2 : plLine D.b.k (2 * h)
      all_goals rw [h2] at pl1
      all_goals cases h3 : plLine D.b.k (2 * h + 1)
      all_goals rw [h3] at pl2
      all_goals (try simp (config := { maxSteps := 10000000 }) only [go_sem, seval, ho, ll, d0, d1, h0, h1, e1, e2, cl, pl1, pl2, Bool.false_eq_true, if_true, if_false]; repeat (simp (disch := omega) only [w64_d, ipos, ineg, dpos, dneg]; try simp (config := { maxSteps := 10000000 }) only [go_sem, seval, ho, ll, d0, d1, h0, h1, e1, e2, cl, pl1, pl2, Bool.false_eq_true, if_true, if_false]))
      all_goals exact subH_refl _
    · refine ⟨fun _ he => by simp at he, fun E k he hE => ?_⟩
      simp only [List.cons.injEq, AV.c.injEq, Sc.p.injEq, Sc.i.injEq, and_true] at he
      obtain ⟨e1, rfl⟩ := he
      rw [hB.uniq hE e1]
  obtain ⟨v, h1, h2⟩ := this
  rw [h1, h2.2 D h rfl hB]
end

/-! ## XBs3 -/
section
variable {H : AH} {D : Bd}

def toBy (v : BitVec 64) : Int := IntKind.u8.wrap (v.toNat : Int)
def bRb (D : Bd) (p : Bp) : Bs := if p.d = 2 then { D.b with k := plR D.b.k (plAt D.b.k.n p.o p.s) } else D.b
def bRt (D : Bd) (p : Bp) : Pt := if p.d = 1 ∨ p.d = 2 then D.t else (readP D.t p.o).1
def bRv (D : Bd) (p : Bp) : BitVec 64 := if p.d = 1 then ckR D.b.c (ckAt D.b.c.n p.o p.s) p.s else if p.d = 2 then plV D.b.k (plAt D.b.k.n p.o p.s) else BitVec.ofInt 64 (readP D.t p.o).2.1
def bWb (D : Bd) (p : Bp) (v : BitVec 64) : Bs := if p.d = 1 then { D.b with c := ckW D.b.c (ckAt D.b.c.n p.o p.s) p.s v } else if p.d = 2 then { D.b with k := plW D.b.k (plAt D.b.k.n p.o p.s) v } else D.b
def bWt (D : Bd) (p : Bp) (v : BitVec 64) : Pt := if p.d = 1 ∨ p.d = 2 then D.t else (writeP D.t p.o (toBy v)).1
theorem bRb_ok (h : BsOk D.b) (p : Bp) : BsOk (bRb D p) := by
  unfold bRb
  split
  · exact h.pk (plR_ok h.k _) (plR_n _ _)
  · exact h
theorem bWb_ok (h : BsOk D.b) (p : Bp) (v : BitVec 64) : BsOk (bWb D p v) := by
  unfold bWb
  repeat' split
  · exact h.ck (ckW_ok h.c _ _ _) (ckW_n _ _ _ _)
  · exact h.pk (plW_ok h.k _ _) (plW_n _ _ _)
  · exact h
/-- what a step leaves -/
def BStep (H H1 : AH) (D : Bd) (b : Bs) (t : Pt) : Prop := ∃ x y, BI H1 { D with b := b, t := t, x := x, y := y } ∧ BK H H1 D { D with b := b, t := t, x := x, y := y }
def Few (t : Pt) : Prop := t.A.length ≤ 1000000 ∧ t.B.length ≤ 1000000
def q_bread (args : List AV) (H : AH) (v : AV) (H1 : AH) : Prop := ∀ D p, args = [.c (.p D.id 0 0), .g (spC p)] → BI H D → v = .c (.u (bRv D p)) ∧ BStep H H1 D (bRb D p) (bRt D p) ∧ nvw H H1
def s_bread : List AV → AH → Option (AV × AH) := frS Try.prog [(58, .fq s_cread), (59, .fp s_pread), (60, .fp s_uread)] 27 q_bread
set_option maxRecDepth 100000 in
set_option maxHeartbeats 2000000 in
theorem ok_bread : FpOk Try.prog 27 s_bread := frS_ok hmix (TabOk.cons (e := .fq s_cread) ok_cread (TabOk.cons (e := .fp s_pread) ok_pread (TabOk.cons (e := .fp s_uread) ok_uread TabOk.nil))) Try.func27 rfl Try.results27 Try.ntmps27 (by kernel_rfl) (by kernel_rfl)
theorem bread_post {p : Bp} (hB : BI H D) {v : AV} {H1 : AH} (h1 : v = .c (.u (bRv D p))) (h2 : BStep H H1 D (bRb D p) (bRt D p)) (h3 : nvw H H1) : q_bread [.c (.p D.id 0 0), .g (spC p)] H v H1 := by
  intro E q he hE
  simp only [List.cons.injEq, AV.c.injEq, AV.g.injEq, Sc.p.injEq, and_true] at he
  obtain ⟨e1, e2⟩ := he
  obtain rfl := spC_inj e2
  obtain rfl := hB.uniq hE e1
  exact ⟨h1, h2, h3⟩
theorem s_bread_ex (hB : BI H D) (hf : Few D.t) (p : Bp) (hp : p.d = 1 ∨ p.d = 2 ∨ p.d = 3) : ∃ H1, s_bread [.c (.p D.id 0 0), .g (spC p)] H = some (.c (.u (bRv D p)), H1) ∧ H.length ≤ H1.length ∧ BStep H H1 D (bRb D p) (bRt D p) ∧ nvw H H1 := by
  have : ∃ v H1, s_bread [.c (.p D.id 0 0), .g (spC p)] H = some (v, H1) ∧ H.length ≤ H1.length ∧ q_bread [.c (.p D.id 0 0), .g (spC p)] H v H1 := by
    obtain ⟨d, o, s⟩ := p
    simp only at hp
    have hA := hB.app [.own [.i d, .u o, .i s]]
    have ho := hA.ho
    have ho' := hB.ho
    have ll := hB.l
    have d0 : (busC D.pid D.b).getD 0 .any = .p D.pid 0 0 := rfl
    have lid := hB.lid
    have hoX : ∀ X, hg (H ++ X) D.id = .own (busC D.pid D.b) := fun X => (hB.app X).ho
    rcases hp with rfl | rfl | rfl
    · have cr := s_cread_eq hA.ck (off := o) (sz := s)
      unfold s_bread
      apply frS_ex (v := .c (.u (bRv D ⟨1, o, s⟩))) Try.func27 rfl Try.results27 Try.ntmps27 (by simp only [List.length_cons, List.length_nil]; decide)
      · intro _ _
        rw [show bRv D ⟨1, o, s⟩ = ckR D.b.c (ckAt D.b.c.n o s) s from rfl]
        (try simp (config := { maxSteps := 10000000 }) only [go_sem, seval, spC, hoX, ll, cr]; repeat (simp (disch := omega) only [w64_d, ipos, ineg, dpos, dneg]; try simp (config := { maxSteps := 10000000 }) only [go_sem, seval, spC, hoX, ll, cr]))
        (repeat' first | apply And.intro | (intro _; kernel_rfl) | kernel_rfl)
        exact fin_same
      · simp
      · exact bread_post hB rfl ⟨D.x, D.y, hB.app _, BK.app⟩ (nvw_h rfl)
    · have pr := s_pread_eq hA.pk (off := o) (sz := s)
      rw [hA.pkS] at pr
      have hS := hA.set (b := bRb D ⟨2, o, s⟩) (bRb_ok hB.ok _)
      have hK := hA.setK (bRb D ⟨2, o, s⟩)
      have e : bRb D ⟨2, o, s⟩ = { D.b with k := plR D.b.k (plAt D.b.k.n o s) } := rfl
      rw [← e] at pr
      unfold s_bread
      apply frS_ex (v := .c (.u (bRv D ⟨2, o, s⟩))) Try.func27 rfl Try.results27 Try.ntmps27 (by simp only [List.length_cons, List.length_nil]; decide)
      · intro _ _
        rw [show bRv D ⟨2, o, s⟩ = plV D.b.k (plAt D.b.k.n o s) from rfl]
        (try simp (config := { maxSteps := 10000000 }) only [go_sem, seval, spC, hoX, ll, pr]; repeat (simp (disch := omega) only [w64_d, ipos, ineg, dpos, dneg]; try simp (config := { maxSteps := 10000000 }) only [go_sem, seval, spC, hoX, ll, pr]))
        (repeat' first | apply And.intro | (intro _; kernel_rfl) | kernel_rfl)
        exact fin_same
      · simp
      · exact bread_post hB rfl ⟨D.x, D.y, hS, hK.cut⟩ (nvw_trans (nvw_h rfl) (nvw_set fun _ => rfl))
    · obtain ⟨K', x', h1, h2, h3⟩ := read_ok hA.pi o hf.1
      obtain ⟨g1, g2⟩ := hA.port h2 h3
      unfold s_bread
      apply frS_ex (v := .c (.u (bRv D ⟨3, o, s⟩))) Try.func27 rfl Try.results27 Try.ntmps27 (by simp only [List.length_cons, List.length_nil]; decide)
      · intro _ _
        rw [show bRv D ⟨3, o, s⟩ = BitVec.ofInt 64 (readP D.t o).2.1 from rfl]
        (try simp (config := { maxSteps := 10000000 }) only [go_sem, seval, spC, hoX, ll, d0, h1]; repeat (simp (disch := omega) only [w64_d, ipos, ineg, dpos, dneg]; try simp (config := { maxSteps := 10000000 }) only [go_sem, seval, spC, hoX, ll, d0, h1]))
        (repeat' first | apply And.intro | (intro _; kernel_rfl) | kernel_rfl)
        exact fin_same
      · have := g2.len; simp at this; omega
      · exact bread_post hB rfl ⟨x', D.y, g1, g2.cut⟩ (nvw_trans (nvw_h rfl) (nv_uread h1))
  obtain ⟨v, H1, h1, h2, h3⟩ := this
  obtain ⟨rfl, h4⟩ := h3 D p rfl hB
  exact ⟨H1, h1, h2, h4⟩
def q_bwrite (args : List AV) (H : AH) (v : AV) (H1 : AH) : Prop := ∀ D p w, args = [.c (.p D.id 0 0), .g (spC p), .c (.u w)] → BI H D → v = .t [] ∧ BStep H H1 D (bWb D p w) (bWt D p w) ∧ nvw H H1
def s_bwrite : List AV → AH → Option (AV × AH) := frS Try.prog [(64, .fp s_cwrite), (65, .fp s_pwrite), (66, .fp s_uwrite)] 29 q_bwrite
set_option maxRecDepth 100000 in
set_option maxHeartbeats 2000000 in
theorem ok_bwrite : FpOk Try.prog 29 s_bwrite := frS_ok hmix (TabOk.cons (e := .fp s_cwrite) ok_cwrite (TabOk.cons (e := .fp s_pwrite) ok_pwrite (TabOk.cons (e := .fp s_uwrite) ok_uwrite TabOk.nil))) Try.func29 rfl Try.results29 Try.ntmps29 (by kernel_rfl) (by kernel_rfl)
theorem bwrite_post {p : Bp} {w : BitVec 64} (hB : BI H D) {v : AV} {H1 : AH} (h1 : v = .t []) (h2 : BStep H H1 D (bWb D p w) (bWt D p w)) (h3 : nvw H H1) : q_bwrite [.c (.p D.id 0 0), .g (spC p), .c (.u w)] H v H1 := by
  intro E q w' he hE
  simp only [List.cons.injEq, AV.c.injEq, AV.g.injEq, Sc.p.injEq, Sc.u.injEq, and_true] at he
  obtain ⟨e1, e2, rfl⟩ := he
  obtain rfl := spC_inj e2
  obtain rfl := hB.uniq hE e1
  exact ⟨h1, h2, h3⟩
theorem s_bwrite_ex (hB : BI H D) (hf : Few D.t) (p : Bp) (hp : p.d = 1 ∨ p.d = 2 ∨ p.d = 3) (w : BitVec 64) : ∃ H1, s_bwrite [.c (.p D.id 0 0), .g (spC p), .c (.u w)] H = some (.t [], H1) ∧ H.length ≤ H1.length ∧ BStep H H1 D (bWb D p w) (bWt D p w) ∧ nvw H H1 := by
  have : ∃ v H1, s_bwrite [.c (.p D.id 0 0), .g (spC p), .c (.u w)] H = some (v, H1) ∧ H.length ≤ H1.length ∧ q_bwrite [.c (.p D.id 0 0), .g (spC p), .c (.u w)] H v H1 := by
    obtain ⟨d, o, s⟩ := p
    simp only at hp
    have hA := hB.app [.own [.i d, .u o, .i s]]
    have ll := hB.l
    have d0 : (busC D.pid D.b).getD 0 .any = .p D.pid 0 0 := rfl
    have hoX : ∀ X, hg (H ++ X) D.id = .own (busC D.pid D.b) := fun X => (hB.app X).ho
    rcases hp with rfl | rfl | rfl
    · have cw := s_cwrite_eq hA.ck (off := o) (sz := s) (v := w)
      rw [hA.ckS] at cw
      have e : bWb D ⟨1, o, s⟩ w = { D.b with c := ckW D.b.c (ckAt D.b.c.n o s) s w } := rfl
      rw [← e] at cw
      unfold s_bwrite
      apply frS_ex (v := .t []) Try.func29 rfl Try.results29 Try.ntmps29 (by simp only [List.length_cons, List.length_nil]; decide)
      · intro _ _
        (try simp (config := { maxSteps := 10000000 }) only [go_sem, seval, spC, hoX, ll, cw]; repeat (simp (disch := omega) only [w64_d, ipos, ineg, dpos, dneg]; try simp (config := { maxSteps := 10000000 }) only [go_sem, seval, spC, hoX, ll, cw]))
        (repeat' first | apply And.intro | (intro _; kernel_rfl) | kernel_rfl)
        exact fin_same
      · simp
      · exact bwrite_post hB rfl ⟨D.x, D.y, hA.set (bWb_ok hB.ok _ _), (hA.setK _).cut⟩ (nvw_trans (nvw_h rfl) (nvw_set fun _ => rfl))
    · have pw := s_pwrite_eq hA.pk (off := o) (sz := s) (v := w)
      rw [hA.pkS] at pw
      have e : bWb D ⟨2, o, s⟩ w = { D.b with k := plW D.b.k (plAt D.b.k.n o s) w } := rfl
      rw [← e] at pw
      unfold s_bwrite
      apply frS_ex (v := .t []) Try.func29 rfl Try.results29 Try.ntmps29 (by simp only [List.length_cons, List.length_nil]; decide)
      · intro _ _
        (try simp (config := { maxSteps := 10000000 }) only [go_sem, seval, spC, hoX, ll, pw]; repeat (simp (disch := omega) only [w64_d, ipos, ineg, dpos, dneg]; try simp (config := { maxSteps := 10000000 }) only [go_sem, seval, spC, hoX, ll, pw]))
        (repeat' first | apply And.intro | (intro _; kernel_rfl) | kernel_rfl)
        exact fin_same
      · simp
      · exact bwrite_post hB rfl ⟨D.x, D.y, hA.set (bWb_ok hB.ok _ _), (hA.setK _).cut⟩ (nvw_trans (nvw_h rfl) (nvw_set fun _ => rfl))
    · obtain ⟨K', x', y', h1, h2, h3⟩ := write_ok hA.pi o (toBy w) hf.1 hf.2
      obtain ⟨g1, g2⟩ := hA.port h2 h3
      have tb : IntKind.u8.wrap (w.toNat : Int) = toBy w := rfl
      unfold s_bwrite
      apply frS_ex (v := .t []) Try.func29 rfl Try.results29 Try.ntmps29 (by simp only [List.length_cons, List.length_nil]; decide)
      · intro _ _
        (try simp (config := { maxSteps := 10000000 }) only [go_sem, seval, spC, hoX, ll, d0, tb, h1]; repeat (simp (disch := omega) only [w64_d, ipos, ineg, dpos, dneg]; try simp (config := { maxSteps := 10000000 }) only [go_sem, seval, spC, hoX, ll, d0, tb, h1]))
        (repeat' first | apply And.intro | (intro _; kernel_rfl) | kernel_rfl)
        exact fin_same
      · have := g2.len; simp at this; omega
      · exact bwrite_post hB rfl ⟨x', y', g1, g2.cut⟩ (nvw_trans (nvw_h rfl) (nv_uwrite h1))
  obtain ⟨v, H1, h1, h2, h3⟩ := this
  obtain ⟨rfl, h4⟩ := h3 D p w rfl hB
  exact ⟨H1, h1, h2, h4⟩
end

end
end Go.Proofs.Ytfddaaplnnlfoaa
