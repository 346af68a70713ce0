/- The law WalkAlone. -/
import Derived.Test.YtanblagbkhpolaaWl3
namespace Go.Proofs.Ytanblagbkhpolaa
open Go.Am
set_option linter.unusedSimpArgs false
set_option linter.unusedVariables false
noncomputable section

theorem ab_k_rem {P : Program} {t : Nat} {k : IntKind} {x y : Int} : abin P .rem t (.c (.k k x)) (.c (.k k y)) = if 0 ≤ x ∧ 0 < y then some (.c (.k k (x.tmod y))) else none := if_pos rfl
theorem thN_to {z : ShS} {M : Nat × MapE} {R : List Sl} : ∀ (f : Nat) (t : Ts), thN (z.to M R) f t = thN z f t
  | 0, t => rfl
  | f + 1, t => by
    show (if endedW t.w = true then _ else if dOk (z.to t.M t.R) 0 (askQ t.w) = true then thN (z.to M R) f (stT z t) else _) = _
    rw [thN_to f (stT z t)]; rfl
theorem ShIs.other {H : AH} {x : Sc} {s : ShS} (h : ShIs H x s) {i : Nat} {o : AObj} (h1 : i ≠ s.id) (h2 : i ≠ s.ram.id) (h3 : i ≠ s.ram.mid) : ShIs (H.set i o) x s :=
  ⟨h.x, by rw [hg_set_ne' h1]; exact h.o, h.r.other h2 h3, h.l, h.h1, h.t1⟩
theorem shSet_other {H : AH} {s : ShS} {i : Nat} {o : AObj} (h1 : i ≠ s.id) (h3 : i ≠ s.ram.mid) (M : Nat × MapE) (R : List Sl) : (shSet H s M R).set i o = shSet (H.set i o) s M R := by
  unfold shSet
  rw [List.set_comm _ _ h1.symm, List.set_comm _ _ h3.symm]
structure Dst where
  M : Nat × MapE
  R : List Sl
def dsN (z : ShS) (L : List De) (k : Nat) : Dst := (L.take k).foldl (fun p e => ⟨dM (z.to p.M p.R) (dH e) (dQ e), dR (z.to p.M p.R) (dH e) (dQ e)⟩) ⟨z.ram.M, z.R⟩
theorem dsN_step {z : ShS} {L : List De} {k : Nat} {e : De} (h : L[k]? = some e) : dsN z L (k + 1) = ⟨dM (z.to (dsN z L k).M (dsN z L k).R) (dH e) (dQ e), dR (z.to (dsN z L k).M (dsN z L k).R) (dH e) (dQ e)⟩ := by
  unfold dsN
  rw [List.take_add_one, h, List.foldl_append]; rfl
theorem dsN_in {z : ShS} (hw : wfE z.ram.n z.ram.M) (hR : z.R.length = 8) {L : List De} : ∀ {k : Nat}, k ≤ L.length → wfE z.ram.n (dsN z L k).M ∧ (dsN z L k).R.length = 8
  | 0, _ => ⟨hw, hR⟩
  | k + 1, h => by
    obtain ⟨h1, h2⟩ := dsN_in hw hR (L := L) (k := k) (by omega)
    rw [dsN_step (List.getElem?_eq_getElem (show k < L.length by omega))]
    exact ⟨dM_wf (z := z.to _ _) h1, dR_len (z := z.to _ _) h2⟩
theorem eq_ent {p l d : Int} {a b : BitVec 64} : abin Try.prog .eql 39 (.g [.i p, .u a, .i l, .u b]) (.g [.i p, .u a, .i l, .u b]) = some (.c (.b true)) := by rw [eqT39]; simp [csEq, scEq, eqU]
def s_walone (args : List AV) (H : AH) : Option AV :=
  match args with
  | [.c (.k .u8 m), .c x, .g [.i _, .u _, .u _, .i _, .i _, .b _, .b _]] => match slD 20 dcD H x with
    | some L => if 0 ≤ m ∧ m ≤ 255 ∧ L.length ≤ 9223372036854775807 then some (.c (.b true)) else none
    | none => none
  | _ => none
set_option maxRecDepth 100000 in
set_option maxHeartbeats 8000000 in
theorem ok_walone : FpOk Try.prog 4 (fun args H => (s_walone args H).map fun v => (v, H)) := by
  refine fq_ok (s := s_walone) (tab := [(10, .pu s_wlive), (14, .fp s_snew), (15, .fp s_sdo14), (16, .fp s_thru), (17, .pu s_pmarked), (18, .pu s_plets), (19, .pu s_pkind)]) hmix (TabOk.cons (e := .pu s_wlive) ok_wlive (TabOk.cons (e := .fp s_snew) ok_snew (TabOk.cons (e := .fp s_sdo14) ok_sdo14 (TabOk.cons (e := .fp s_thru) ok_thru (TabOk.cons (e := .pu s_pmarked) ok_pmarked (TabOk.cons (e := .pu s_plets) ok_plets (TabOk.cons (e := .pu s_pkind) ok_pkind TabOk.nil))))))) Try.func4 rfl Try.results4 Try.ntmps4 (by kernel_rfl) (by kernel_rfl) ?_
  intro args H v h hargs hH
  unfold s_walone at h
  split at h
  · rename_i m x ln ro va ac pr su mx
    split at h
    · rename_i L h1
      split at h
      · rename_i hn
        obtain ⟨m0, m1, hL⟩ := hn
        simp only [Option.some.injEq] at h
        subst h
        refine ⟨by simp only [List.length_cons, List.length_nil]; decide, rfl, ?_⟩
        have bq : belH (H ++ [.own [.i ln, .u ro, .u va, .i ac, .i pr, .b su, .b mx]]) = true := belH_app hH (by simp only [List.mem_singleton, forall_eq]; rfl)
        by_cases hl : 60 < L.length
        · rcases slD_inv dcD_d h1 with ⟨rfl, rfl⟩ | ⟨id, v, rfl, hv, hcs⟩
          · simp at hl
          · have e1 : (60 : Int) < (L.length : Int) := by omega
            (try simp (config := { maxSteps := 10000000 }) only [go_sem, seval, s_wlive_eq, s_snew_eq, s_sdo14_eq, s_thru_eq, s_pmarked_eq, s_plets_eq, s_pkind_eq, e1]; repeat (simp (disch := omega) only [w64_d, ipos, ineg, dpos, dneg]; try simp (config := { maxSteps := 10000000 }) only [go_sem, seval, s_wlive_eq, s_snew_eq, s_sdo14_eq, s_thru_eq, s_pmarked_eq, s_plets_eq, s_pkind_eq, e1]))
            exact subH_app _ _
        have hlN : ¬ (60 : Int) < (L.length : Int) := by omega
        obtain ⟨n, hnn⟩ : ∃ n : Nat, n = 1 + (m.tmod 60).toNat := ⟨_, rfl⟩
        have tm : 0 ≤ m.tmod 60 ∧ m.tmod 60 < 60 := by rw [Int.tmod_eq_emod_of_nonneg m0]; omega
        have e60 : w64 (1 + m.tmod 60) = (n : Int) := by rw [w64_d (by omega) (by omega)]; omega
        have hr : rightB14 1 1 n 1 = true := by simp only [rightB14, wiI, Bool.and_eq_true, decide_eq_true_eq]; omega
        obtain ⟨Q, hQ⟩ : ∃ Q, Q = H ++ [AObj.own [.i ln, .u ro, .u va, .i ac, .i pr, .b su, .b mx]] := ⟨_, rfl⟩
        have lQ : Q.length = H.length + 1 := by rw [hQ]; simp
        rw [← hQ] at bq
        have hS := nwIs (H := Q) hr
        have bS := nw_bel (h := 1) (t := 1) (n := (n : Int)) (b := 1) bq
        have gQ : ∀ j, j < H.length → hg (Q ++ nwH Q.length 1 1 n 1) j = hg H j := fun j h => by rw [hQ, List.append_assoc]; exact hg_lt' h
        have gq : hg (Q ++ nwH Q.length 1 1 n 1) H.length = .own [.i ln, .u ro, .u va, .i ac, .i pr, .b su, .b mx] := by rw [hQ, List.append_assoc, hg_len]; rfl
        have pN : s_snew [.g [.i 1, .i 1, .i n, .i 1]] Q = some (.t [.c (.p (H.length + 4) 0 0), .c (.i 0)], Q ++ nwH Q.length 1 1 n 1) := by rw [s_snew_eq, if_pos hr, lQ]
        rw [hQ] at pN
        have lB : (Q ++ nwH Q.length 1 1 n 1).length = H.length + 5 := by rw [List.length_append, lQ]; rfl
        have i0 : (nwS Q.length 1 1 n 1).id = H.length + 4 := by show Q.length + 3 = _; omega
        have i1 : (nwS Q.length 1 1 n 1).ram.mid = H.length + 2 := by show Q.length + 1 = _; omega
        have i2 : (nwS Q.length 1 1 n 1).ram.id = H.length + 3 := by show Q.length + 2 = _; omega
        have zh : (nwS Q.length 1 1 n 1).h = 1 := rfl
        have zn : (nwS Q.length 1 1 n 1).ram.n = n := by show ((n : Int)).toNat = n; exact Int.toNat_natCast n
        have zM : wfE (nwS Q.length 1 1 n 1).ram.n (nwS Q.length 1 1 n 1).ram.M := hS.r.w
        rw [show Q.length + 3 = H.length + 4 by omega] at hS
        rw [← hQ] at pN
        generalize nwS Q.length 1 1 n 1 = z at *
        generalize Q ++ nwH Q.length 1 1 n 1 = B at *
        rw [hQ] at pN
        have hin := fun k => dsN_in (z := z) zM hS.l (L := L) (k := k)
        let A : Nat → AH := fun k => shSet B z (dsN z L k).M (dsN z L k).R
        have lA : ∀ k, (A k).length = H.length + 5 := fun k => by show (shSet _ _ _ _).length = _; rw [shSet_len, lB]
        have bA : ∀ k, belH (A k) = true := fun k => hS.bel bS _ _
        have gA : ∀ k j X, j ≤ H.length → hg (A k ++ X) j = hg B j := fun k j X hj => by
          rw [hg_lt' (by rw [lA]; omega)]
          show hg (shSet _ _ _ _) j = _
          unfold shSet
          rw [hg_set_ne' (by omega), hg_set_ne' (by omega)]
        have A0 : A 0 = B := hS.self
        have pN' : s_snew [.g [.i 1, .i 1, .i n, .i 1]] (H ++ [AObj.own [.i ln, .u ro, .u va, .i ac, .i pr, .b su, .b mx]]) = some (.t [.c (.p (H.length + 4) 0 0), .c (.i 0)], A 0) := by rw [A0]; exact pN
        have pD : ∀ k e X, L[k]? = some e → ∃ v, s_sdo14 [.c (.p (H.length + 4) 0 0), .c (.i (dH e)), .g (encD e).tail] (A k ++ X) = some (v, A (k + 1) ++ X) := fun k e X he => by
          obtain ⟨eh, kk, a, b, c, s, op, d, o, lv, r, eE, eR, eH, eQ, _, _⟩ := de_of e
          have hk : k < L.length := by
            rcases Nat.lt_or_ge k L.length with g | g
            · exact g
            · rw [List.getElem?_eq_none g] at he; simp at he
          have := sh_do hS (hin k (by omega)).1 (hin k (by omega)).2 X (h := eh) (k := kk) (a := a) (b := b) (c := c) (z := s) (op := op) (d := d) (o := o) (lv := lv) eR
          have e : A (k + 1) = shSet B z (dM (z.to (dsN z L k).M (dsN z L k).R) eh ⟨kk, a, b, c, s, op, d, o, lv⟩) (dR (z.to (dsN z L k).M (dsN z L k).R) eh ⟨kk, a, b, c, s, op, d, o, lv⟩) := by
            show shSet B z (dsN z L (k + 1)).M (dsN z L (k + 1)).R = _
            rw [dsN_step he, eH, eQ]
          rw [eE, eH, e]
          exact ⟨_, this⟩
        -- behind the deeds
        obtain ⟨p, hp⟩ : ∃ p, p = dsN z L L.length := ⟨_, rfl⟩
        obtain ⟨hpw, hpr⟩ := hin L.length (Nat.le_refl _)
        rw [← hp] at hpw hpr
        have AK : A L.length = shSet B z p.M p.R := by rw [hp]
        obtain ⟨B', hB'⟩ : ∃ B', B' = B.set H.length (.own [.i n, .u ro, .u va, .i ac, .i pr, .b su, .b mx]) := ⟨_, rfl⟩
        have hS' : ShIs B' (.p (H.length + 4) 0 0) z := by rw [hB']; exact hS.other (by omega) (by omega) (by omega)
        have lB' : B'.length = H.length + 5 := by rw [hB', List.length_set, lB]
        have s1 : (A L.length).set H.length (.own [.i n, .u ro, .u va, .i ac, .i pr, .b su, .b mx]) = shSet B' z p.M p.R := by rw [AK, shSet_other (by omega) (by omega), hB']
        have gB' : ∀ j, j < H.length → hg B' j = hg H j := fun j hj => by rw [hB', hg_set_ne' (by omega), gQ j hj]
        have gBq : hg B' H.length = .own [.i n, .u ro, .u va, .i ac, .i pr, .b su, .b mx] := by rw [hB', hg_set_same (by omega)]
        obtain ⟨o, ho, oq, oa, ob, oc⟩ := run_q (z := z.to p.M p.R) (by show z.h = 1; exact zh) (by show 1 ≤ z.ram.n; omega) (by show z.ram.n ≤ 4096; omega) (ro := ro) (va := va) (ac := ac) (pr := pr) (su := su) (mx := mx) hpw hpr
        rw [show (z.to p.M p.R).ram.n = n from zn] at ho oc
        have t1 := s_thru_eq (hS'.set hpw hpr) (ln := n) (ro := ro) (va := va) (ac := ac) (pr := pr) (su := su) (mx := mx)
        have e1 : thR (z.to p.M p.R) n ro va ac pr su mx = o := ho
        rw [e1, shSet_set hS'] at t1
        have gg : ∀ M R j X, j ≤ H.length → hg (shSet B' z M R ++ X) j = hg B' j := fun M R j X hj => by
          rw [hg_lt' (by rw [shSet_len]; omega)]
          unfold shSet
          rw [hg_set_ne' (by omega), hg_set_ne' (by omega)]
        have gq1 : ∀ M R X, hg (shSet B' z M R ++ X) H.length = .own [.i n, .u ro, .u va, .i ac, .i pr, .b su, .b mx] := fun M R X => by rw [gg _ _ _ _ (Nat.le_refl _), gBq]
        have gq0 : ∀ M R, hg (shSet B' z M R) H.length = .own [.i n, .u ro, .u va, .i ac, .i pr, .b su, .b mx] := fun M R => by have := gq1 M R []; rwa [List.append_nil] at this
        have lS : ∀ M R, (shSet B' z M R).length = H.length + 5 := fun M R => by rw [shSet_len, lB']
        have hj : ∀ M R X j, hg (shSet B' z M R ++ X) (H.length + 5 + j) = hg X j := fun M R X j => by rw [← lS M R, hg_len_add]
        have hj5 : ∀ M R X, hg (shSet B' z M R ++ X) (H.length + 5) = hg X 0 := fun M R X => by rw [← lS M R, hg_len]
        have hj6 : ∀ M R X, hg (shSet B' z M R ++ X) (H.length + 6) = hg X 1 := fun M R X => hj M R X 1
        have hj7 : ∀ M R X, hg (shSet B' z M R ++ X) (H.length + 7) = hg X 2 := fun M R X => hj M R X 2
        have hj8 : ∀ M R X, hg (shSet B' z M R ++ X) (H.length + 8) = hg X 3 := fun M R X => hj M R X 3
        have sj5 : ∀ M R X c, (shSet B' z M R ++ X).set (H.length + 5) c = shSet B' z M R ++ X.set 0 c := fun M R X c => by rw [← lS M R, set_len]
        have sj : ∀ M R X j c, (shSet B' z M R ++ X).set (H.length + 5 + j) c = shSet B' z M R ++ X.set j c := fun M R X j c => by rw [← lS M R, set_len_add]
        have sj6 : ∀ M R X c, (shSet B' z M R ++ X).set (H.length + 6) c = shSet B' z M R ++ X.set 1 c := fun M R X c => sj M R X 1 c
        have sj7 : ∀ M R X c, (shSet B' z M R ++ X).set (H.length + 7) c = shSet B' z M R ++ X.set 2 c := fun M R X c => sj M R X 2 c
        have sj8 : ∀ M R X c, (shSet B' z M R ++ X).set (H.length + 8) c = shSet B' z M R ++ X.set 3 c := fun M R X c => sj M R X 3 c
        have sub : ∀ M R X, subH H (shSet B' z M R ++ X) := fun M R X => subH_of_hg (by rw [List.length_append, lS]; omega) fun j hj => by rw [gg _ _ _ _ (by omega), gB' j hj]
        have sub0 : ∀ M R, subH H (shSet B' z M R) := fun M R => by have := sub M R []; rwa [List.append_nil] at this
        have gAq : hg (A L.length) H.length = .own [.i ln, .u ro, .u va, .i ac, .i pr, .b su, .b mx] := by have := gA L.length H.length [] (Nat.le_refl _); rw [List.append_nil] at this; rw [this, gq]
        clear_value A
        rcases slD_inv dcD_d h1 with ⟨rfl, rfl⟩ | ⟨id, v, rfl, hv, hcs⟩
        · (try simp (config := { maxSteps := 10000000 }) only [go_sem, seval, s_wlive_eq, s_snew_eq, s_sdo14_eq, s_thru_eq, s_pmarked_eq, s_plets_eq, s_pkind_eq, ab_k_rem, m0, e60, pN']; repeat (simp (disch := omega) only [w64_d, ipos, ineg, dpos, dneg]; try simp (config := { maxSteps := 10000000 }) only [go_sem, seval, s_wlive_eq, s_snew_eq, s_sdo14_eq, s_thru_eq, s_pmarked_eq, s_plets_eq, s_pkind_eq, ab_k_rem, m0, e60, pN']))
          refine arun_for 0 (fun _ => ([(1, .c .nils), (5, .c (.p H.length 0 0)), (7, .c (.i n)), (8, .c (.p (H.length + 4) 0 0)), (10, .c (.i 0))], A 0)) ?_ fun k hk => ?_
          · exact Wk.wk (by simp [lo, lA]) (by simp [Am.get]) (by simp [AV.bel, Sc.bel, lA]) (subH_refl _) (bA 0)
          · have s1 : (A 0).set H.length (.own [.i n, .u ro, .u va, .i ac, .i pr, .b su, .b mx]) = shSet B' z p.M p.R := s1
            have gAq : hg (A 0) H.length = .own [.i ln, .u ro, .u va, .i ac, .i pr, .b su, .b mx] := gAq
            rcases oc with ⟨fe, fx, fb⟩ | ⟨fe, pg, lv, d, fx, fk, fl, fw, fr, f1, f2, f3, f4⟩
            · rw [fx, fb, oq] at t1
              have oa' : ¬ 3 < o.a := by omega
              rcases fe with fe | fe
              all_goals rw [fe] at t1
              all_goals (try simp (config := { maxSteps := 10000000 }) only [go_sem, seval, s_wlive_eq, s_snew_eq, s_sdo14_eq, s_thru_eq, s_pmarked_eq, s_plets_eq, s_pkind_eq, gAq, s1, gq0, gq1, lS, hj5, hj6, hj7, hj8, sj5, sj6, sj7, sj8, t1, entC, oa', eq_ent]; repeat (simp (disch := omega) only [w64_d, ipos, ineg, dpos, dneg]; try simp (config := { maxSteps := 10000000 }) only [go_sem, seval, s_wlive_eq, s_snew_eq, s_sdo14_eq, s_thru_eq, s_pmarked_eq, s_plets_eq, s_pkind_eq, gAq, s1, gq0, gq1, lS, hj5, hj6, hj7, hj8, sj5, sj6, sj7, sj8, t1, entC, oa', eq_ent]))
              all_goals exact sub _ _ _
            · rw [fx, fe, oq] at t1
              have oa' : ¬ 3 < o.a := by omega
              have ob' : ¬ 1 < o.b := by omega
              have t2 := fun X => s_thru_eq ((hS'.set (by rw [zn]; exact fw) fr).app X) (ln := n) (ro := ro) (va := va) (ac := ac) (pr := pr) (su := su) (mx := mx)
              have e2 : thR (z.to o.M o.R) n ro va ac pr su mx = thN (z.to p.M p.R) 20 ⟨beginW n ro va ac pr su mx, o.M, o.R, 0, 0⟩ := by
                unfold thR
                rw [thN_to, thN_to]; rfl
              have t2 : ∀ X, s_thru [.c (.p (H.length + 4) 0 0), .g [.i n, .u ro, .u va, .i ac, .i pr, .b su, .b mx]] (shSet B' z o.M o.R ++ X) = some (.t [.c (.i 1), .g (entC pg lv (markU d ac)), .g [.i (thR (z.to o.M o.R) n ro va ac pr su mx).a, .i 0], .c (.b true)], shSet B' z (thR (z.to o.M o.R) n ro va ac pr su mx).M (thR (z.to o.M o.R) n ro va ac pr su mx).R ++ X) := fun X => by
                rw [t2 X, shSet_app (hS'.set (by rw [zn]; exact fw) fr), shSet_set hS', e2, f1, f2, f3, f4, fx]
              have K2 := mark_kind d ac lv fk
              have P2 : letsB (markU d ac) ac pr su mx = true := by rw [mark_lets]; exact fl
              have M2 := mark_twice d ac
              (try simp (config := { maxSteps := 10000000 }) only [go_sem, seval, s_wlive_eq, s_snew_eq, s_sdo14_eq, s_thru_eq, s_pmarked_eq, s_plets_eq, s_pkind_eq, gAq, s1, gq0, gq1, lS, hj5, hj6, hj7, hj8, sj5, sj6, sj7, sj8, t1, t2, entC, oa', ob', eq_ent, K2, P2, M2]; repeat (simp (disch := omega) only [w64_d, ipos, ineg, dpos, dneg]; try simp (config := { maxSteps := 10000000 }) only [go_sem, seval, s_wlive_eq, s_snew_eq, s_sdo14_eq, s_thru_eq, s_pmarked_eq, s_plets_eq, s_pkind_eq, gAq, s1, gq0, gq1, lS, hj5, hj6, hj7, hj8, sj5, sj6, sj7, sj8, t1, t2, entC, oa', ob', eq_ent, K2, P2, M2]))
              exact sub _ _ _
        · have lid : id < H.length := by simp only [List.all_cons, AV.bel, Sc.bel, Bool.and_eq_true, decide_eq_true_eq] at hargs; exact hargs.2.1
          have gI := fun k X => gA k id X (by omega)
          rw [gQ id lid] at gI
          have gI0 : ∀ k, hg (A k) id = hg H id := fun k => by have := gI k []; rwa [List.append_nil] at this
          (try simp (config := { maxSteps := 10000000 }) only [go_sem, seval, s_wlive_eq, s_snew_eq, s_sdo14_eq, s_thru_eq, s_pmarked_eq, s_plets_eq, s_pkind_eq, ab_k_rem, m0, e60, pN', hlN]; repeat (simp (disch := omega) only [w64_d, ipos, ineg, dpos, dneg]; try simp (config := { maxSteps := 10000000 }) only [go_sem, seval, s_wlive_eq, s_snew_eq, s_sdo14_eq, s_thru_eq, s_pmarked_eq, s_plets_eq, s_pkind_eq, ab_k_rem, m0, e60, pN', hlN]))
          refine arun_for L.length (fun i => ([(1, .c (.sl id 0 v L.length)), (5, .c (.p H.length 0 0)), (7, .c (.i n)), (8, .c (.p (H.length + 4) 0 0)), (10, .c (.i i))], A i)) ?_ fun i hi => ?_
          · exact Wk.wk (by simp [lo, lA]) (by simp [Am.get]) (by simp [AV.bel, Sc.bel, lA]; omega) (subH_refl _) (bA 0)
          · by_cases hlt : i < L.length
            · obtain ⟨e, he⟩ : ∃ e, L[i]? = some e := ⟨_, List.getElem?_eq_getElem hlt⟩
              have e0 : (i : Int) < (L.length : Int) := by omega
              have e00 : (0 : Int) ≤ (i : Int) := by omega
              have e1 : w64 ((i : Int) + 1) = ((i + 1 : Nat) : Int) := by rw [w64_d (by omega) (by omega)]; omega
              have jj : (i : Int).toNat = i := Int.toNat_natCast i
              obtain ⟨eh, k, a, b, c, s, op, d, o', lv, r, eE, eR, eH, eQ, _, _⟩ := de_of e
              obtain ⟨dv, p2⟩ := pD i e [] he
              rw [List.append_nil, List.append_nil, eE, eH, List.tail_cons] at p2
              have q1 := fm_le encD_l (L := L) (k := i) hlt
              have q2 := row_drop encD_l he 0 (by omega)
              have q3 := row_drop encD_l he 1 (by omega)
              have q4 := fm_cell encD_l he (i := 0) (by decide)
              rw [eE, Nat.add_zero] at q2 q4
              rw [eE] at q3
              rw [← hcs] at q1 q2 q3 q4
              have hv' := hv.symm
              have lr := eR.1
              have ro' := eR.2.2
              have tr : ∀ X, (r ++ X).take 10 = r := fun X => by rw [List.take_append_of_le_length (by omega), List.take_of_length_le (by omega)]
              have rt : r.take 10 = r := List.take_of_length_le (by omega)
              have q5 : i * 20 + 1 + 19 ≤ (hg H id).cells.length := by omega
              have q6 : i * 20 + 1 ≤ (hg H id).cells.length := by omega
              (try simp (config := { maxSteps := 10000000 }) only [go_sem, seval, s_wlive_eq, s_snew_eq, s_sdo14_eq, s_thru_eq, s_pmarked_eq, s_plets_eq, s_pkind_eq, e0, e00, e1, jj, gI0, hv', q1, q2, q3, q4, q5, q6, tr, rt, lr, ro', lA, p2]; repeat (simp (disch := omega) only [w64_d, ipos, ineg, dpos, dneg]; try simp (config := { maxSteps := 10000000 }) only [go_sem, seval, s_wlive_eq, s_snew_eq, s_sdo14_eq, s_thru_eq, s_pmarked_eq, s_plets_eq, s_pkind_eq, e0, e00, e1, jj, gI0, hv', q1, q2, q3, q4, q5, q6, tr, rt, lr, ro', lA, p2]))
              (repeat' first | apply And.intro | (intro _; kernel_rfl) | kernel_rfl)
              exact ⟨i + 1, by omega, by omega, Wk.wk (by simp [lo, lA]) (by simp [Am.get]) (by simp [AV.bel, Sc.bel, lA]; omega) (subH_refl _) (bA (i + 1))⟩
            · obtain rfl : i = L.length := by omega
              have e0 : ¬ (L.length : Int) < (L.length : Int) := by omega
              rcases oc with ⟨fe, fx, fb⟩ | ⟨fe, pg, lv, d, fx, fk, fl, fw, fr, f1, f2, f3, f4⟩
              · rw [fx, fb, oq] at t1
                have oa' : ¬ 3 < o.a := by omega
                rcases fe with fe | fe
                all_goals rw [fe] at t1
                all_goals (try simp (config := { maxSteps := 10000000 }) only [go_sem, seval, s_wlive_eq, s_snew_eq, s_sdo14_eq, s_thru_eq, s_pmarked_eq, s_plets_eq, s_pkind_eq, e0, gAq, s1, gq0, gq1, lS, hj5, hj6, hj7, hj8, sj5, sj6, sj7, sj8, t1, entC, oa', eq_ent]; repeat (simp (disch := omega) only [w64_d, ipos, ineg, dpos, dneg]; try simp (config := { maxSteps := 10000000 }) only [go_sem, seval, s_wlive_eq, s_snew_eq, s_sdo14_eq, s_thru_eq, s_pmarked_eq, s_plets_eq, s_pkind_eq, e0, gAq, s1, gq0, gq1, lS, hj5, hj6, hj7, hj8, sj5, sj6, sj7, sj8, t1, entC, oa', eq_ent]))
                all_goals exact sub _ _ _
              · rw [fx, fe, oq] at t1
                have oa' : ¬ 3 < o.a := by omega
                have ob' : ¬ 1 < o.b := by omega
                have t2 := fun X => s_thru_eq ((hS'.set (by rw [zn]; exact fw) fr).app X) (ln := n) (ro := ro) (va := va) (ac := ac) (pr := pr) (su := su) (mx := mx)
                have e2 : thR (z.to o.M o.R) n ro va ac pr su mx = thN (z.to p.M p.R) 20 ⟨beginW n ro va ac pr su mx, o.M, o.R, 0, 0⟩ := by
                  unfold thR
                  rw [thN_to, thN_to]; rfl
                have t2 : ∀ X, s_thru [.c (.p (H.length + 4) 0 0), .g [.i n, .u ro, .u va, .i ac, .i pr, .b su, .b mx]] (shSet B' z o.M o.R ++ X) = some (.t [.c (.i 1), .g (entC pg lv (markU d ac)), .g [.i (thR (z.to o.M o.R) n ro va ac pr su mx).a, .i 0], .c (.b true)], shSet B' z (thR (z.to o.M o.R) n ro va ac pr su mx).M (thR (z.to o.M o.R) n ro va ac pr su mx).R ++ X) := fun X => by
                  rw [t2 X, shSet_app (hS'.set (by rw [zn]; exact fw) fr), shSet_set hS', e2, f1, f2, f3, f4, fx]
                have K2 := mark_kind d ac lv fk
                have P2 : letsB (markU d ac) ac pr su mx = true := by rw [mark_lets]; exact fl
                have M2 := mark_twice d ac
                (try simp (config := { maxSteps := 10000000 }) only [go_sem, seval, s_wlive_eq, s_snew_eq, s_sdo14_eq, s_thru_eq, s_pmarked_eq, s_plets_eq, s_pkind_eq, e0, gAq, s1, gq0, gq1, lS, hj5, hj6, hj7, hj8, sj5, sj6, sj7, sj8, t1, t2, entC, oa', ob', eq_ent, K2, P2, M2]; repeat (simp (disch := omega) only [w64_d, ipos, ineg, dpos, dneg]; try simp (config := { maxSteps := 10000000 }) only [go_sem, seval, s_wlive_eq, s_snew_eq, s_sdo14_eq, s_thru_eq, s_pmarked_eq, s_plets_eq, s_pkind_eq, e0, gAq, s1, gq0, gq1, lS, hj5, hj6, hj7, hj8, sj5, sj6, sj7, sj8, t1, t2, entC, oa', ob', eq_ent, K2, P2, M2]))
                exact sub _ _ _
      · simp at h
    · simp at h
  · simp at h
theorem sig_walone (avs : List AV) (H : AH) (h : SigA [.fl false [.n .u8], .sl [.n .i64, .n .i64, .n .u64, .n .u64, .n .i64, .n .i64, .n .i64, .n .u64, .n .u64, .q, .n .i64, .q, .q, .q, .n .u64, .n .i64, .n .i64, .n .u64, .n .i64, .n .u64], .fl true [.n .i64, .n .u64, .n .u64, .n .i64, .n .i64, .q, .q]] avs H) : s_walone avs H = some (.c (.b true)) := by
  obtain ⟨s, r0, rfl, k, h1⟩ := sig_c h
  obtain ⟨m, rfl, m0, m1⟩ : ∃ x, s = .k .u8 x ∧ 0 ≤ x ∧ x ≤ 255 := by
    cases s with
    | k kd x =>
      simp only [FitK] at k
      obtain ⟨rfl, _, a, b⟩ := k
      exact ⟨x, rfl, a, b⟩
    | _ => simp [FitK] at k
  obtain ⟨x, r, rfl, h2, L, hL, -, hl⟩ := sig_row (f := encD) (w := 20) (dc := dcD) (p := fun _ => True) (fun cs hcs => ⟨⟨cs, hcs⟩, rfl, trivial⟩) encD_l dcD_e h1
  obtain ⟨l0, r1, rfl, g0, h9⟩ := sig_g h2
  obtain ⟨s0, t0, rfl, k0, g1⟩ := fit_cons g0
  obtain ⟨s1, t1, rfl, k1, g2⟩ := fit_cons g1
  obtain ⟨s2, t2, rfl, k2, g3⟩ := fit_cons g2
  obtain ⟨s3, t3, rfl, k3, g4⟩ := fit_cons g3
  obtain ⟨s4, t4, rfl, k4, g5⟩ := fit_cons g4
  obtain ⟨s5, t5, rfl, k5, g6⟩ := fit_cons g5
  obtain ⟨s6, t6, rfl, k6, g7⟩ := fit_cons g6
  obtain rfl := fit_nil g7
  obtain ⟨x0, rfl, _⟩ := fk_i k0
  obtain ⟨x1, rfl⟩ := fk_u k1
  obtain ⟨x2, rfl⟩ := fk_u k2
  obtain ⟨x3, rfl, _⟩ := fk_i k3
  obtain ⟨x4, rfl, _⟩ := fk_i k4
  obtain ⟨x5, rfl⟩ := fk_q k5
  obtain ⟨x6, rfl⟩ := fk_q k6
  obtain rfl := sig_nil h9
  simp only [s_walone, hL]
  rw [if_pos ⟨m0, m1, hl⟩]
end
end Go.Proofs.Ytanblagbkhpolaa
