/- Layer 12: the law of locks that are played. -/
import Derived.Test.YthfccacopffkgaaLkL
namespace Go.Proofs.Ythfccacopffkgaa
open Go.Am
set_option linter.unusedSimpArgs false
set_option linter.unusedVariables false
noncomputable section
set_option maxRecDepth 100000

section
variable {H : AH}
def s_lplay (args : List AV) (H : AH) : Option AV :=
  match args with
  | [.c (.i _), .c x, .g d] =>
    match slD 3 dcDd H x, dcDd d with
    | some L, some _ => if L.length ≤ 9223372036854775807 then some (.c (.b true)) else none
    | _, _ => none
  | _ => none
set_option maxRecDepth 100000 in
set_option maxHeartbeats 2000000 in
theorem ok_lplay : FpOk Try.prog 4 (fun args H => (s_lplay args H).map fun v => (v, H)) := by
  refine fq_ok (s := s_lplay) (tab := [(8, .fp s_lnew), (15, .fp s_rlnew), (18, .fp s_ltake), (16, .fp s_ldrop), (19, .fp s_rltake), (17, .fp s_rldrop), (20, .fq s_lsame), (12, .fp s_lstk), (22, .fp s_rlstk), (21, .fq s_ints), (23, .fr s_lclo), (7, .pu s_llive)]) hmix (TabOk.cons (e := .fp s_lnew) ok_lnew (TabOk.cons (e := .fp s_rlnew) ok_rlnew (TabOk.cons (e := .fp s_ltake) ok_ltake (TabOk.cons (e := .fp s_ldrop) ok_ldrop (TabOk.cons (e := .fp s_rltake) ok_rltake (TabOk.cons (e := .fp s_rldrop) ok_rldrop (TabOk.cons (e := .fq s_lsame) ok_lsame (TabOk.cons (e := .fp s_lstk) ok_lstk (TabOk.cons (e := .fp s_rlstk) ok_rlstk (TabOk.cons (e := .fq s_ints) ok_ints (TabOk.cons (e := .fr s_lclo) ok_lclo (TabOk.cons (e := .pu s_llive) ok_llive TabOk.nil)))))))))))) Try.func4 rfl Try.results4 Try.ntmps4 (by kernel_rfl) (by kernel_rfl) ?_
  intro args H v h hargs hH
  unfold s_lplay at h
  split at h
  · rename_i n x d
    split at h
    · rename_i L o hL ho
      split at h
      · rename_i hl
        simp only [Option.some.injEq] at h
        subst h
        refine ⟨by simp only [List.length_cons, List.length_nil]; decide, rfl, ?_⟩
        obtain rfl := dcDd_d _ _ ho
        have bx : x.bel H.length = true := by simp only [List.all_cons, AV.bel, Bool.and_eq_true] at hargs; exact hargs.2.1
        have xl : ∀ e, lenB (.sl e) (.c x) = some (.c (.i L.length)) := by
          intro e
          rcases slD_inv dcDd_d hL with ⟨rfl, rfl⟩ | ⟨id, v, rfl, _⟩ <;> rfl
        have xs : (lenB (.sl 0) (.c x)).isSome = true := by rw [xl]; rfl
        unfold ddC
        by_cases hn : 1 ≤ n ∧ n ≤ 128
        rotate_left
        · have nw : ∀ K, s_lnew [.c (.i n)] K = some (.t [.c .nilp, .c (.i 1)], K) := fun K => by simp only [s_lnew, if_neg hn]
          by_cases c1 : n < 1
          · (try simp (config := { maxSteps := 10000000 }) only [go_sem, seval, nw, c1, s_llive_eq]; repeat (simp (disch := omega) only [w64_d, ipos, ineg, dpos, dneg]; try simp (config := { maxSteps := 10000000 }) only [go_sem, seval, nw, c1, s_llive_eq]))
            exact subH_app _ _
          · have c2 : 128 < n := by omega
            (try simp (config := { maxSteps := 10000000 }) only [go_sem, seval, nw, c1, c2, s_llive_eq]; repeat (simp (disch := omega) only [w64_d, ipos, ineg, dpos, dneg]; try simp (config := { maxSteps := 10000000 }) only [go_sem, seval, nw, c1, c2, s_llive_eq]))
            exact subH_app _ _
        have nw : ∀ K : AH, s_lnew [.c (.i n)] K = some (.t [.c (.p (K.length + 1) 0 0), .c (.i 0)], K ++ [.map 0 [], .own [.i n, .mp K.length]]) := fun K => by simp only [s_lnew, if_pos hn]
        have c1 : ¬ n < 1 := by omega
        have c2 : ¬ 128 < n := by omega
        by_cases c3 : 12 < n
        · (try simp (config := { maxSteps := 10000000 }) only [go_sem, seval, nw, c1, c2, c3, s_llive_eq]; repeat (simp (disch := omega) only [w64_d, ipos, ineg, dpos, dneg]; try simp (config := { maxSteps := 10000000 }) only [go_sem, seval, nw, c1, c2, c3, s_llive_eq]))
          exact subH_app _ _
        by_cases c4 : 60 < L.length
        · have c4' : (60 : Int) < L.length := by omega
          (try simp (config := { maxSteps := 10000000 }) only [go_sem, seval, nw, c1, c2, c3, xl, xs, as_len_y, c4', s_llive_eq]; repeat (simp (disch := omega) only [w64_d, ipos, ineg, dpos, dneg]; try simp (config := { maxSteps := 10000000 }) only [go_sem, seval, nw, c1, c2, c3, xl, xs, as_len_y, c4', s_llive_eq]))
          exact subH_app _ _
        have c4' : ¬ ((60 : Int) < L.length) := by omega
        have rn : ∀ K : AH, s_rlnew [.c (.i n)] K = some (xV K.length (yN n.toNat), K ++ [.vec 2 ((yN n.toNat).flatMap lyC)]) := fun K => by simp only [s_rlnew]; rw [if_pos (by omega)]
        obtain ⟨H0, hH0⟩ : ∃ H0 : AH, H0 = H ++ [AObj.own [.b o.d, .i o.w, .i o.a]] := ⟨_, rfl⟩
        have I0 := LpI.new (H := H0) (n := n) hn.1 hn.2
        have l0 : H0.length = H.length + 1 := by rw [hH0]; simp
        have e0 : H0 ++ [.map 0 [], .own [.i n, .mp H0.length], .vec 2 ((yN n.toNat).flatMap lyC)] = H ++ [AObj.own [.b o.d, .i o.w, .i o.a], .map 0 [], .own [.i n, .mp (H.length + 1)], .vec 2 ((yN n.toNat).flatMap lyC)] := by rw [l0, hH0, List.append_assoc]; rfl
        rw [e0, l0] at I0
        unfold xV at rn
        (try simp (config := { maxSteps := 10000000 }) only [go_sem, seval, nw, c1, c2, c3, xl, xs, as_len_y, c4', rn]; repeat (simp (disch := omega) only [w64_d, ipos, ineg, dpos, dneg]; try simp (config := { maxSteps := 10000000 }) only [go_sem, seval, nw, c1, c2, c3, xl, xs, as_len_y, c4', rn]))
        rw [arun_loop]
        refine ⟨{s : Nat × AH × Ld × List Ly // s.1 ≤ L.length ∧ LpI (H.length + 2) H0 s.2.1 s.2.2.1 (H.length + 3) s.2.2.2}, fun s => ([(1, .c x), (5, .c (.p H.length 0 0)), (7, .c (.p (H.length + 2) 0 0)), (9, xV (H.length + 3) s.1.2.2.2), (10, .c (.i s.1.1))], s.1.2.1), fun s => L.length - s.1.1,
          ⟨(0, _, _, _), by simp, I0⟩, wkFL (by simp [Am.get, xV, yN_l]), ?_⟩
        rintro ⟨⟨k, K, D, Y⟩, hk, I⟩
        simp only at hk I
        by_cases hlt : k < L.length
        · rcases slD_inv dcDd_d hL with ⟨rfl, rfl⟩ | ⟨id, ver, rfl, hv, hcs⟩
          · simp at hlt
          have lid : id < H.length := by simpa [Sc.bel] using bx
          obtain ⟨e, he⟩ : ∃ a, L[k]? = some a := ⟨_, List.getElem?_eq_getElem hlt⟩
          have g1 := fm_le ddC_l (L := L) (k := k) hlt
          have d0 := fm_cell ddC_l he (i := 0) (by decide)
          have d1 := fm_cell ddC_l he (i := 1) (by decide)
          have d2 := fm_cell ddC_l he (i := 2) (by decide)
          rw [Nat.add_zero] at d0
          rw [← hcs] at g1 d0 d1 d2
          have hid : ∀ J : AH, (∀ i, i < H0.length → hg J i = hg H0 i) → hg J id = hg H id := fun J hJ => by rw [hJ id (by omega), hH0, hg_lt' lid]
          have gK := hid K I.old
          have k0 : (0 : Int) ≤ (k : Int) := by omega
          have kI : (k : Int) < L.length := by omega
          have E1 : w64 ((k : Int) + 1) = ((k + 1 : Nat) : Int) := by rw [w64_d (by omega) (by omega)]; omega
          have b0 : k * 3 + 1 ≤ (hg H id).cells.length := by omega
          have b1 : k * 3 + 1 + 1 ≤ (hg H id).cells.length := by omega
          have b2 : k * 3 + 2 + 1 ≤ (hg H id).cells.length := by omega
          have hv' := hv.symm
          have lv : (hg H id).live = true := by
            cases hh : hg H id with
            | dead => rw [hh] at b0; simp [AObj.cells] at b0
            | _ => rfl
          cases hd : e.d with
          | true =>
            obtain ⟨K1, K2, b, E, Z, h1, h2, h3, I2, hn2, hz⟩ := I.drop e.w e.a
            have gK1 := hid K1 h3
            have d0' : (hg H id).cells.getD (k * 3) .any = .b true := by rw [d0]; show Sc.b e.d = _; rw [hd]
            have d1' : (hg H id).cells.getD (k * 3 + 1) .any = .i e.w := d1
            have d2' : (hg H id).cells.getD (k * 3 + 2) .any = .i e.a := d2
            unfold xV at h2 ⊢
            cases b
            all_goals (try simp (config := { maxSteps := 10000000 }) only [go_sem, seval, xl, kI, k0, gK, gK1, b0, b1, b2, d0', d1', d2', hv', h1, h2, E1, lv, Int.toNat_natCast]; repeat (simp (disch := omega) only [w64_d, ipos, ineg, dpos, dneg]; try simp (config := { maxSteps := 10000000 }) only [go_sem, seval, xl, kI, k0, gK, gK1, b0, b1, b2, d0', d1', d2', hv', h1, h2, E1, lv, Int.toNat_natCast]))
            all_goals (repeat' first | apply And.intro | (intro _; kernel_rfl) | kernel_rfl)
            all_goals exact ⟨⟨(k + 1, _, E, Z), by simp only; omega, I2⟩, by simp only; omega, wkFL (by simp [Am.get, xV, hz])⟩
          | false =>
            obtain ⟨K1, K2, b, E, Z, h1, h2, h3, I2, hn2, hz⟩ := I.take e.w e.a
            have gK1 := hid K1 h3
            have d0' : (hg H id).cells.getD (k * 3) .any = .b false := by rw [d0]; show Sc.b e.d = _; rw [hd]
            have d1' : (hg H id).cells.getD (k * 3 + 1) .any = .i e.w := d1
            have d2' : (hg H id).cells.getD (k * 3 + 2) .any = .i e.a := d2
            unfold xV at h2 ⊢
            cases b
            all_goals (try simp (config := { maxSteps := 10000000 }) only [go_sem, seval, xl, kI, k0, gK, gK1, b0, b1, b2, d0', d1', d2', hv', h1, h2, E1, lv, Int.toNat_natCast]; repeat (simp (disch := omega) only [w64_d, ipos, ineg, dpos, dneg]; try simp (config := { maxSteps := 10000000 }) only [go_sem, seval, xl, kI, k0, gK, gK1, b0, b1, b2, d0', d1', d2', hv', h1, h2, E1, lv, Int.toNat_natCast]))
            all_goals (repeat' first | apply And.intro | (intro _; kernel_rfl) | kernel_rfl)
            all_goals exact ⟨⟨(k + 1, _, E, Z), by simp only; omega, I2⟩, by simp only; omega, wkFL (by simp [Am.get, xV, hz])⟩
        · obtain rfl : k = L.length := by omega
          have kI : ¬ ((L.length : Int) < L.length) := by omega
          have sm := I.same
          obtain ⟨y1, K1, y2, K2, h1, h2, h3, I2⟩ := I.stk
          unfold xV at sm h2 ⊢
          (try simp (config := { maxSteps := 10000000 }) only [go_sem, seval, xl, xs, as_len_y, kI, sm, h1, h2, h3]; repeat (simp (disch := omega) only [w64_d, ipos, ineg, dpos, dneg]; try simp (config := { maxSteps := 10000000 }) only [go_sem, seval, xl, xs, as_len_y, kI, sm, h1, h2, h3]))
          have lc := s_lclo_eq I2.li
          rw [I2.p] at lc
          refine nxt_call (f := 23) (vs := [.c (.p (H.length + 2) 0 0)]) (cs := []) (by simp [opnds, ev, Am.get]) (by rfl) lc fun v J hR => ?_
          obtain ⟨E, rfl, hE⟩ := hR D I2.li I2.p
          have oJ : hg J H.length = .own [.b o.d, .i o.w, .i o.a] := by
            rw [hE.old _ (by have := I2.len; omega), I2.old _ (by omega), hH0, hg_len]; rfl
          cases hd : o.d with
          | true =>
            obtain ⟨J1, g1, _, g2⟩ := s_ldrop_ex hE.li o.w o.a
            have I3 := I2.clo hE g2
            have sm3 := I3.same
            unfold xV at sm3
            (try simp (config := { maxSteps := 10000000 }) only [go_sem, seval, oJ, hd, g1, sm3, s_llive_eq]; repeat (simp (disch := omega) only [w64_d, ipos, ineg, dpos, dneg]; try simp (config := { maxSteps := 10000000 }) only [go_sem, seval, oJ, hd, g1, sm3, s_llive_eq]))
            exact subH_ofL (by have := I3.len; omega) fun i hi => by rw [I3.old i (by omega), hH0, hg_lt' hi]
          | false =>
            obtain ⟨J1, g1, _, g2⟩ := s_ltake_ex hE.li o.w o.a
            have I3 := I2.clo hE g2
            have sm3 := I3.same
            unfold xV at sm3
            (try simp (config := { maxSteps := 10000000 }) only [go_sem, seval, oJ, hd, g1, sm3, s_llive_eq]; repeat (simp (disch := omega) only [w64_d, ipos, ineg, dpos, dneg]; try simp (config := { maxSteps := 10000000 }) only [go_sem, seval, oJ, hd, g1, sm3, s_llive_eq]))
            exact subH_ofL (by have := I3.len; omega) fun i hi => by rw [I3.old i (by omega), hH0, hg_lt' hi]
      · simp at h
    · simp at h
  · simp at h
theorem sig_lplay (avs : List AV) (H : AH) (h : SigA [.fl false [.n .i64], .sl [.q, .n .i64, .n .i64], .fl true [.q, .n .i64, .n .i64]] avs H) : s_lplay avs H = some (.c (.b true)) := by
  have dec : ∀ cs, L2 FitK cs [.q, .n .i64, .n .i64] → ∃ x : Dd, cs = ddC x ∧ True := fun cs gg => by
    obtain ⟨s1, l1, rfl, q1, g0⟩ := fit_cons gg
    obtain ⟨a, rfl⟩ := fk_q q1
    obtain ⟨s2, l2, rfl, q2, g1⟩ := fit_cons g0
    obtain ⟨b, rfl, _, _⟩ := fk_i q2
    obtain ⟨s3, l3, rfl, q3, g2⟩ := fit_cons g1
    obtain ⟨c, rfl, _, _⟩ := fk_i q3
    obtain rfl := fit_nil g2
    exact ⟨⟨a, b, c⟩, rfl, trivial⟩
  obtain ⟨s1, r1, rfl, q1, h1⟩ := sig_c h
  obtain ⟨n, rfl, _, _⟩ := fk_i q1
  obtain ⟨x, r2, rfl, h2, l, hl, hp, hn⟩ := sig_row (f := ddC) (w := 3) (dc := dcDd) (p := fun _ => True) dec ddC_l dcDd_e h1
  obtain ⟨g, r3, rfl, k0, h3⟩ := sig_g h2
  obtain rfl := sig_nil h3
  obtain ⟨d, rfl, _⟩ := dec g k0
  simp only [s_lplay, hl, dcDd_e]
  rw [if_pos hn]
end
end
end Go.Proofs.Ythfccacopffkgaa
