/- Layer 12: the law of eight jobs. -/
import Derived.Test.YthfccacopffkgaaLkW
namespace Go.Proofs.Ythfccacopffkgaa
open Go.Am
set_option linter.unusedSimpArgs false
set_option linter.unusedVariables false
noncomputable section
set_option maxRecDepth 100000

section
variable {H : AH}
def e8L (x : Int) : List Sc := [.k .u8 x]
def dc8L : List Sc → Option Int
  | [.k .u8 x] => some x
  | _ => none
theorem e8L_l (x : Int) : (e8L x).length = 1 := rfl
theorem dc8L_e (x : Int) : dc8L (e8L x) = some x := rfl
theorem dc8L_d (cs : List Sc) (x : Int) (h : dc8L cs = some x) : cs = e8L x := by unfold dc8L at h; split at h <;> simp_all [e8L]
theorem ab_k_remL {P : Program} {t : Nat} {k : IntKind} {x y : Int} : abin P .rem t (.c (.k k x)) (.c (.k k y)) = if 0 ≤ x ∧ 0 < y then some (.c (.k k (x.tmod y))) else none := if_pos rfl
theorem wkFLe {n : Nat} {fr fr' : Fr} {H K : AH} (h : H = K) (hf : ∀ p ∈ fr', Am.get fr p.1 = p.2) : Wk n fr H (fr', K) := by subst h; exact wkFL hf
def s_lgoon (args : List AV) (H : AH) : Option AV :=
  match args with
  | [.g l, .c x] =>
    match slD 1 dc8L H x with
    | some P => if l.length = 8 ∧ (∀ s ∈ l, (slD 1 dcI H s).isSome = true) ∧ (∀ y ∈ P, 0 ≤ y ∧ y ≤ 255) then some (.c (.b true)) else none
    | none => none
  | _ => none
set_option maxRecDepth 100000 in
set_option maxHeartbeats 2000000 in
theorem ok_lgoon : FpOk Try.prog 3 (fun args H => (s_lgoon args H).map fun v => (v, H)) := by
  refine fq_ok (s := s_lgoon) (tab := [(8, .fp s_lnew), (9, .fp s_lplan), (10, .fp s_lneeds), (11, .fp s_gstep), (12, .fp s_lstk), (13, .fq s_ldone), (14, .fp s_lheld), (7, .pu s_llive)]) hmix (TabOk.cons (e := .fp s_lnew) ok_lnew (TabOk.cons (e := .fp s_lplan) ok_lplan (TabOk.cons (e := .fp s_lneeds) ok_lneeds (TabOk.cons (e := .fp s_gstep) ok_gstep (TabOk.cons (e := .fp s_lstk) ok_lstk (TabOk.cons (e := .fq s_ldone) ok_ldone (TabOk.cons (e := .fp s_lheld) ok_lheld (TabOk.cons (e := .pu s_llive) ok_llive TabOk.nil)))))))) Try.func3 rfl Try.results3 Try.ntmps3 (by kernel_rfl) (by kernel_rfl) ?_
  intro args H v h hargs hH
  unfold s_lgoon at h
  split at h <;> try (simp at h; done)
  rename_i l x
  split at h <;> try (simp at h; done)
  rename_i P hP
  split at h <;> try (simp at h; done)
  rename_i hc
  obtain ⟨hl8, hl, hp⟩ := hc
  simp only [Option.some.injEq] at h
  subst h
  refine ⟨by simp only [List.length_cons, List.length_nil]; decide, rfl, ?_⟩
  simp only [List.all_cons, AV.bel, Bool.and_eq_true] at hargs
  obtain ⟨bl, bx, _⟩ := hargs
  have one : l.all Sc.one = true := List.all_eq_true.2 fun s hs => by
    obtain ⟨A, hA⟩ := Option.isSome_iff_exists.1 (hl s hs)
    rcases slD_inv dcI_d hA with ⟨rfl, rfl⟩ | ⟨id, v, rfl, _⟩ <;> rfl
  have xl : ∀ e, lenB (.sl e) (.c x) = some (.c (.i P.length)) := by
    intro e
    rcases slD_inv dc8L_d hP with ⟨rfl, rfl⟩ | ⟨id, v, rfl, _⟩ <;> rfl
  have xs : (lenB (.sl 0) (.c x)).isSome = true := by rw [xl]; rfl
  by_cases c1 : 200 < P.length
  · have c1' := eq_true (show (200 : Int) < P.length by omega)
    (try simp (config := { maxSteps := 10000000 }) only [go_sem, seval, xl, xs, as_len_y, c1', s_llive_eq, one]; repeat (simp (disch := omega) only [w64_d, ipos, ineg, dpos, dneg]; try simp (config := { maxSteps := 10000000 }) only [go_sem, seval, xl, xs, as_len_y, c1', s_llive_eq, one]))
    exact subH_app _ _
  have c1' : ¬ ((200 : Int) < P.length) := by omega
  have nw : ∀ K : AH, s_lnew [.c (.i 10)] K = some (.t [.c (.p (K.length + 1) 0 0), .c (.i 0)], K ++ [.map 0 [], .own [.i 10, .mp K.length]]) := fun K => rfl
  obtain ⟨G, hG⟩ : ∃ G : AH, G = H ++ [AObj.own l] := ⟨_, rfl⟩
  have lG : G.length = H.length + 1 := by rw [hG]; simp
  obtain ⟨I0, eS0⟩ := GI.new (G := G)
  obtain ⟨K0, hK0⟩ : ∃ K0 : AH, K0 = H ++ [AObj.own l, .map 0 [], .own [.i 10, .mp (H.length + 1)], .own ((List.replicate 8 (⟨.nils, [], 0⟩ : Jb)).flatMap jbc)] := ⟨_, rfl⟩
  have hK1 : G ++ [.map 0 [], .own [.i 10, .mp G.length], .own ((List.replicate 8 (⟨.nils, [], 0⟩ : Jb)).flatMap jbc)] = K0 := by rw [hK0, lG, hG, List.append_assoc]; rfl
  rw [hK1] at I0
  obtain ⟨D0, hD0⟩ : ∃ D0 : Ld, D0 = ⟨G.length + 1, G.length, 10, 0, []⟩ := ⟨_, rfl⟩
  rw [← hD0] at I0 eS0
  (try simp (config := { maxSteps := 10000000 }) only [go_sem, seval, xl, xs, as_len_y, c1', one, nw]; repeat (simp (disch := omega) only [w64_d, ipos, ineg, dpos, dneg]; try simp (config := { maxSteps := 10000000 }) only [go_sem, seval, xl, xs, as_len_y, c1', one, nw]))
  rw [arun_loop]
  refine ⟨{s : Nat × Nat × AH × List Jb // s.1 ≤ 8 ∧ GI G s.2.2.1 D0 s.2.2.2 ∧ maxS s.2.2.2 = s.2.1 + (8 - s.1) ∧ s.2.1 ≤ 13 * s.1 ∧ (∀ j ∈ s.2.2.2, j.s = 0 ∧ j.L.Pairwise (fun x y => x < y) ∧ ∀ a ∈ j.L, 0 ≤ a ∧ a < 10) ∧ ∀ i, s.1 ≤ i → i < 8 → s.2.2.2[i]? = some ⟨.nils, [], 0⟩},
    fun s => ([(1, .c x), (2, .c (.p H.length 0 0)), (5, .c (.p (H.length + 2) 0 0)), (7, .c (.p (H.length + 3) 0 0)), (8, .c (.i s.1.2.1)), (9, .c (.i s.1.1))], s.1.2.2.1), fun s => 8 - s.1.1,
    ⟨(0, 0, K0, List.replicate 8 ⟨.nils, [], 0⟩), Nat.zero_le _, I0, rfl, Nat.zero_le _, fun j hj => ?_, fun i _ hi => ?_⟩, ?_, ?_⟩
  · obtain rfl := List.eq_of_mem_replicate hj
    exact ⟨rfl, List.Pairwise.nil, fun a ha => by simp at ha⟩
  · simp only
    rw [List.getElem?_replicate, if_pos hi]
  · exact wkFLe hK0.symm (by simp [Am.get])
  have oH : ∀ {K : AH} {D : Ld} {J : List Jb}, GI G K D J → ∀ i, i < H.length → hg K i = hg H i := fun I i hi => by rw [I.old i (by omega), hG, hg_lt' hi]
  have lH : ∀ {K : AH} {D : Ld} {J : List Jb}, GI G K D J → H.length ≤ K.length := fun I => by have := I.len; omega
  rintro ⟨⟨k, st, K, J⟩, hk, I, hm, hst, hJ, hd⟩
  simp only at hk I hm hst hJ hd
  by_cases hlt : k < 8
  rotate_left
  · obtain rfl : k = 8 := by omega
    have hI := Inv.init I.jl hJ
    rw [← eS0] at hI
    (try simp (config := { maxSteps := 10000000 }) only [go_sem, seval, xl, xs, as_len_y]; repeat (simp (disch := omega) only [w64_d, ipos, ineg, dpos, dneg]; try simp (config := { maxSteps := 10000000 }) only [go_sem, seval, xl, xs, as_len_y]))
    have M0 : st ≤ 104 := by omega
    have hm' : maxS J = st := by omega
    clear hm hst hJ hd
    rw [arun_loop]
    refine ⟨{s : Nat × AH × Ld × List Jb // s.1 ≤ P.length ∧ GI G s.2.1 s.2.2.1 s.2.2.2 ∧ Inv s.2.2.1.S s.2.2.2 ∧ maxS s.2.2.2 = st},
      fun s => ([(1, .c x), (5, .c (.p (H.length + 2) 0 0)), (7, .c (.p (H.length + 3) 0 0)), (8, .c (.i st)), (11, .c (.i s.1.1))], s.1.2.1), fun s => P.length - s.1.1,
      ⟨(0, K, _, J), Nat.zero_le _, I, hI, hm'⟩, wkFL (by simp [Am.get]), ?_⟩
    clear I hI hm'
    rintro ⟨⟨k, K, D, J⟩, hk, I, hI, hm⟩
    simp only at hk I hI hm
    by_cases hlt : k < P.length
    · obtain ⟨q, hq⟩ : ∃ q, P[k]? = some q := ⟨_, List.getElem?_eq_getElem hlt⟩
      obtain ⟨q0, q1⟩ := hp q (List.mem_of_getElem? hq)
      rcases slD_inv dc8L_d hP with ⟨rfl, rfl⟩ | ⟨zi, zv, rfl, hzv, hzc⟩
      · simp at hlt
      have lzi : zi < H.length := by simpa [Sc.bel] using bx
      have z0 : (hg K zi).cells.getD k .any = .k .u8 q := by rw [oH I zi lzi, hzc]; exact fm1 (f := e8L) (g := Sc.k .u8) (fun _ => rfl) hq
      have z1 : k + 1 ≤ (hg K zi).cells.length := by
        rw [oH I zi lzi, hzc]
        have := fm_le e8L_l (L := P) (k := k) hlt
        omega
      have z2 : (hg K zi).row = zv := by rw [oH I zi lzi, hzv]
      have kI : (k : Int) < P.length := by omega
      have k0 : (0 : Int) ≤ (k : Int) := by omega
      have E1 : w64 ((k : Int) + 1) = ((k + 1 : Nat) : Int) := by rw [w64_d (by omega) (by omega)]; omega
      obtain ⟨w, hw⟩ : ∃ w : Nat, q % 8 = (w : Int) := ⟨(q % 8).toNat, by omega⟩
      have w8 : w < 8 := by omega
      obtain ⟨K1, E, s1, s2, I1, s3⟩ := I.step hI w8
      obtain ⟨hI1, hm1⟩ := goJ_inv (x := (D.S, J)) hI w
      rw [← s3] at hI1
      obtain ⟨v, K2, t1, t2, t3, I2⟩ := I1.stk hI1
      rw [lG] at s1 t1
      have w0 : (0 : Int) ≤ (w : Int) := by omega
      have wI : (w : Int) < 8 := by omega
      have m8 : q.tmod 8 = (w : Int) := by rw [Int.tmod_eq_emod_of_nonneg q0, hw]
      have t4 : (lenB (.sl 0) (.c v)).isSome = true := by rw [t2]; rfl
      (try simp (config := { maxSteps := 10000000 }) only [go_sem, seval, xl, xs, as_len_y, kI, k0, z0, z1, z2, ab_k_remL, q0, m8, s1, t1, t2, t4, w0, wI, E1, Int.toNat_natCast]; repeat (simp (disch := omega) only [w64_d, ipos, ineg, dpos, dneg]; try simp (config := { maxSteps := 10000000 }) only [go_sem, seval, xl, xs, as_len_y, kI, k0, z0, z1, z2, ab_k_remL, q0, m8, s1, t1, t2, t4, w0, wI, E1, Int.toNat_natCast]))
      exact ⟨⟨(k + 1, K2, E, (goJ (D.S, J) w).2), by simp only; omega, I2, hI1, hm1.trans hm⟩, by simp only; omega, wkFL (by simp [Am.get])⟩
    obtain rfl : k = P.length := by omega
    have kI : ¬ ((P.length : Int) < P.length) := by omega
    (try simp (config := { maxSteps := 10000000 }) only [go_sem, seval, xl, xs, as_len_y, kI]; repeat (simp (disch := omega) only [w64_d, ipos, ineg, dpos, dneg]; try simp (config := { maxSteps := 10000000 }) only [go_sem, seval, xl, xs, as_len_y, kI]))
    rw [arun_loop]
    refine ⟨{s : Nat × AH × Ld × List Jb // s.1 ≤ st ∧ GI G s.2.1 s.2.2.1 s.2.2.2 ∧ Inv s.2.2.1.S s.2.2.2 ∧ maxS s.2.2.2 = st ∧ (s.1 ≤ sumS s.2.2.2 ∨ sumS s.2.2.2 = st)},
      fun s => ([(5, .c (.p (H.length + 2) 0 0)), (7, .c (.p (H.length + 3) 0 0)), (8, .c (.i st)), (13, .c (.i s.1.1))], s.1.2.1), fun s => st - s.1.1,
      ⟨(0, K, _, J), Nat.zero_le _, I, hI, hm, .inl (Nat.zero_le _)⟩, wkFL (by simp [Am.get]), ?_⟩
    clear hk kI I hI hm
    rintro ⟨⟨r, K, D, J⟩, hr, I, hI, hm, hs⟩
    simp only at hr I hI hm hs
    by_cases hlt : r < st
    · have rI : (r : Int) < st := by omega
      have E1 : w64 ((r : Int) + 1) = ((r + 1 : Nat) : Int) := by rw [w64_d (by omega) (by omega)]; omega
      (try simp (config := { maxSteps := 10000000 }) only [go_sem, seval, rI]; repeat (simp (disch := omega) only [w64_d, ipos, ineg, dpos, dneg]; try simp (config := { maxSteps := 10000000 }) only [go_sem, seval, rI]))
      rw [arun_loop]
      refine ⟨{s : Nat × AH × Ld // s.1 ≤ 8 ∧ GI G s.2.1 s.2.2 (runR (D.S, J) s.1).2 ∧ s.2.2.S = (runR (D.S, J) s.1).1},
        fun s => ([(5, .c (.p (H.length + 2) 0 0)), (7, .c (.p (H.length + 3) 0 0)), (8, .c (.i st)), (13, .c (.i r)), (14, .c (.i s.1.1))], s.1.2.1), fun s => 8 - s.1.1,
        ⟨(0, K, D), Nat.zero_le _, I, rfl⟩, wkFL (by simp [Am.get]), ?_⟩
      rintro ⟨⟨i, K, E⟩, hi, I, eS⟩
      simp only at hi I eS
      obtain ⟨g1, g2, g3, g4⟩ := run_inv (x := (D.S, J)) hI i
      by_cases hil : i < 8
      · have iI : (i : Int) < 8 := by omega
        have i0 : (0 : Int) ≤ (i : Int) := by omega
        have F1 : w64 ((i : Int) + 1) = ((i + 1 : Nat) : Int) := by rw [w64_d (by omega) (by omega)]; omega
        obtain ⟨K1, E', s1, s2, I1, s3⟩ := I.step (by rw [eS]; exact g1) hil
        rw [lG] at s1
        have eR : goJ (E.S, (runR (D.S, J) i).2) i = runR (D.S, J) (i + 1) := by rw [eS]; rfl
        rw [eR] at I1 s3
        (try simp (config := { maxSteps := 10000000 }) only [go_sem, seval, iI, i0, s1, F1, Int.toNat_natCast]; repeat (simp (disch := omega) only [w64_d, ipos, ineg, dpos, dneg]; try simp (config := { maxSteps := 10000000 }) only [go_sem, seval, iI, i0, s1, F1, Int.toNat_natCast]))
        exact ⟨⟨(i + 1, K1, E'), by simp only; omega, I1, s3⟩, by simp only; omega, wkFL (by simp [Am.get])⟩
      obtain rfl : i = 8 := by omega
      have iI : ¬ (((8 : Nat) : Int) < 8) := by omega
      (try simp (config := { maxSteps := 10000000 }) only [go_sem, seval, E1]; repeat (simp (disch := omega) only [w64_d, ipos, ineg, dpos, dneg]; try simp (config := { maxSteps := 10000000 }) only [go_sem, seval, E1]))
      rw [← eS] at g1
      have hx : r + 1 ≤ sumS (runR (D.S, J) 8).2 ∨ sumS (runR (D.S, J) 8).2 = st := by
        have le := (sum_le fun j hj => (g1.ok j hj).s).1
        have le0 := (sum_le fun j hj => (hI.ok j hj).s).1
        simp only at g2 g3
        by_cases c : sumS J < maxS J
        · have : sumS J < sumS (runR (D.S, J) 8).2 := Inv.round (x := (D.S, J)) hI c
          omega
        · omega
      exact ⟨⟨(r + 1, K, E, (runR (D.S, J) 8).2), by simp only; omega, I, g1, g2.trans hm, hx⟩, by simp only; omega, wkFL (by simp [Am.get])⟩
    obtain rfl : r = st := by omega
    have rI : ¬ ((r : Int) < r) := by omega
    have hf : sumS J = maxS J := by
      have le0 := (sum_le fun j hj => (hI.ok j hj).s).1
      omega
    (try simp (config := { maxSteps := 10000000 }) only [go_sem, seval, rI]; repeat (simp (disch := omega) only [w64_d, ipos, ineg, dpos, dneg]; try simp (config := { maxSteps := 10000000 }) only [go_sem, seval, rI]))
    rw [arun_loop]
    refine ⟨{s : Nat × AH // s.1 ≤ 8 ∧ GI G s.2 D J}, fun s => ([(5, .c (.p (H.length + 2) 0 0)), (7, .c (.p (H.length + 3) 0 0)), (15, .c (.i s.1.1))], s.1.2), fun s => 8 - s.1.1,
      ⟨(0, K), Nat.zero_le _, I⟩, wkFL (by simp [Am.get]), ?_⟩
    clear I
    rintro ⟨⟨i, K⟩, hi, I⟩
    simp only at hi I
    by_cases hil : i < 8
    · have iI : (i : Int) < 8 := by omega
      have i0 : (0 : Int) ≤ (i : Int) := by omega
      have F1 : w64 ((i : Int) + 1) = ((i + 1 : Nat) : Int) := by rw [w64_d (by omega) (by omega)]; omega
      obtain ⟨d1, d2, I1⟩ := I.over hI hf hil
      rw [lG] at d1 d2
      (try simp (config := { maxSteps := 10000000 }) only [go_sem, seval, iI, i0, d1, d2, F1, Int.toNat_natCast]; repeat (simp (disch := omega) only [w64_d, ipos, ineg, dpos, dneg]; try simp (config := { maxSteps := 10000000 }) only [go_sem, seval, iI, i0, d1, d2, F1, Int.toNat_natCast]))
      exact ⟨⟨(i + 1, _), by simp only; omega, I1⟩, by simp only; omega, wkFL (by simp [Am.get])⟩
    obtain rfl : i = 8 := by omega
    (try simp (config := { maxSteps := 10000000 }) only [go_sem, seval, s_llive_eq]; repeat (simp (disch := omega) only [w64_d, ipos, ineg, dpos, dneg]; try simp (config := { maxSteps := 10000000 }) only [go_sem, seval, s_llive_eq]))
    exact subH_ofL (lH I) (oH I)
  obtain ⟨z, hz⟩ : ∃ z, l[k]? = some z := ⟨_, List.getElem?_eq_getElem (by omega)⟩
  have hzm := List.mem_of_getElem? hz
  obtain ⟨A, hA⟩ := Option.isSome_iff_exists.1 (hl z hzm)
  have bz : z.bel H.length = true := List.all_eq_true.1 bl z hzm
  have gz : l.getD k .any = z := by rw [List.getD_eq_getElem?_getD, hz]; rfl
  have kI : (k : Int) < 8 := by omega
  have k0 : (0 : Int) ≤ (k : Int) := by omega
  have kl : k + 1 ≤ l.length := by omega
  have gK : hg K H.length = .own l := by rw [I.old _ (by omega), hG, hg_len]; rfl
  have zl : ∀ e, lenB (.sl e) (.c z) = some (.c (.i A.length)) := by
    intro e
    rcases slD_inv dcI_d hA with ⟨rfl, rfl⟩ | ⟨id, v, rfl, _⟩ <;> rfl
  have zs : (lenB (.sl 0) (.c z)).isSome = true := by rw [zl]; rfl
  have E1 : w64 ((k : Int) + 1) = ((k + 1 : Nat) : Int) := by rw [w64_d (by omega) (by omega)]; omega
  by_cases c2 : 6 < A.length
  · have c2' := eq_true (show (6 : Int) < A.length by omega)
    (try simp (config := { maxSteps := 10000000 }) only [go_sem, seval, xl, xs, zl, zs, as_len_y, kI, k0, kl, gK, gz, c2', s_llive_eq, Int.toNat_natCast]; repeat (simp (disch := omega) only [w64_d, ipos, ineg, dpos, dneg]; try simp (config := { maxSteps := 10000000 }) only [go_sem, seval, xl, xs, zl, zs, as_len_y, kI, k0, kl, gK, gz, c2', s_llive_eq, Int.toNat_natCast]))
    exact subH_ofL (lH I) (oH I)
  have c2' : ¬ ((6 : Int) < A.length) := by omega
  (try simp (config := { maxSteps := 10000000 }) only [go_sem, seval, xl, xs, zl, zs, as_len_y, kI, k0, kl, gK, gz, c2', s_llive_eq, Int.toNat_natCast]; repeat (simp (disch := omega) only [w64_d, ipos, ineg, dpos, dneg]; try simp (config := { maxSteps := 10000000 }) only [go_sem, seval, xl, xs, zl, zs, as_len_y, kI, k0, kl, gK, gz, c2', s_llive_eq, Int.toNat_natCast]))
  rw [arun_loop]
  refine ⟨{i : Nat // i ≤ A.length ∧ ∀ a ∈ A.take i, 0 ≤ a ∧ a < 10}, fun i => ([(1, .c x), (2, .c (.p H.length 0 0)), (5, .c (.p (H.length + 2) 0 0)), (7, .c (.p (H.length + 3) 0 0)), (8, .c (.i st)), (9, .c (.i k)), (10, .c (.i i.1))], K), fun i => A.length - i.1, ⟨0, Nat.zero_le _, fun a ha => by simp at ha⟩, wkFL (by simp [Am.get]), ?_⟩
  rintro ⟨i, hi, hr⟩
  by_cases hil : i < A.length
  · obtain ⟨a, ha⟩ : ∃ a, A[i]? = some a := ⟨_, List.getElem?_eq_getElem hil⟩
    have tk : A.take (i + 1) = A.take i ++ [a] := by
      rw [List.take_succ_eq_append_getElem hil]
      rw [List.getElem?_eq_getElem hil, Option.some.injEq] at ha
      rw [ha]
    rcases slD_inv dcI_d hA with ⟨rfl, rfl⟩ | ⟨zi, zv, rfl, hzv, hzc⟩
    · simp at hil
    have lzi : zi < H.length := by simpa [Sc.bel] using bz
    have z0 : (hg K zi).cells.getD i .any = .i a := by rw [oH I zi lzi, hzc]; exact fm1 (g := Sc.i) (fun _ => rfl) ha
    have z1 : i + 1 ≤ (hg K zi).cells.length := by
      rw [oH I zi lzi, hzc]
      have := fm_le encI_l (L := A) (k := i) hil
      omega
    have z2 : (hg K zi).row = zv := by rw [oH I zi lzi, hzv]
    have iI : (i : Int) < A.length := by omega
    have i0 : (0 : Int) ≤ (i : Int) := by omega
    have F1 : w64 ((i : Int) + 1) = ((i + 1 : Nat) : Int) := by rw [w64_d (by omega) (by omega)]; omega
    by_cases ca : a < 0
    · have ca' := eq_true ca
      (try simp (config := { maxSteps := 10000000 }) only [go_sem, seval, zl, kI, k0, kl, gK, gz, iI, i0, z0, z1, z2, ca', s_llive_eq, Int.toNat_natCast]; repeat (simp (disch := omega) only [w64_d, ipos, ineg, dpos, dneg]; try simp (config := { maxSteps := 10000000 }) only [go_sem, seval, zl, kI, k0, kl, gK, gz, iI, i0, z0, z1, z2, ca', s_llive_eq, Int.toNat_natCast]))
      exact subH_ofL (lH I) (oH I)
    by_cases cb : 9 < a
    · have cb' := eq_true cb
      (try simp (config := { maxSteps := 10000000 }) only [go_sem, seval, zl, kI, k0, kl, gK, gz, iI, i0, z0, z1, z2, ca, cb', s_llive_eq, Int.toNat_natCast]; repeat (simp (disch := omega) only [w64_d, ipos, ineg, dpos, dneg]; try simp (config := { maxSteps := 10000000 }) only [go_sem, seval, zl, kI, k0, kl, gK, gz, iI, i0, z0, z1, z2, ca, cb', s_llive_eq, Int.toNat_natCast]))
      exact subH_ofL (lH I) (oH I)
    (try simp (config := { maxSteps := 10000000 }) only [go_sem, seval, zl, kI, k0, kl, gK, gz, iI, i0, z0, z1, z2, ca, cb, F1, Int.toNat_natCast]; repeat (simp (disch := omega) only [w64_d, ipos, ineg, dpos, dneg]; try simp (config := { maxSteps := 10000000 }) only [go_sem, seval, zl, kI, k0, kl, gK, gz, iI, i0, z0, z1, z2, ca, cb, F1, Int.toNat_natCast]))
    exact ⟨⟨i + 1, by omega, fun b hb => by
      rw [tk, List.mem_append, List.mem_singleton] at hb
      rcases hb with hb | rfl
      · exact hr b hb
      · omega⟩, by simp only; omega, wkFL (by simp [Am.get])⟩
  obtain rfl : i = A.length := by omega
  rw [List.take_length] at hr
  obtain ⟨n1, n2, n3⟩ := nN_spec A
  have hAK : slD 1 dcI K z = some A := by
    rcases slD_inv dcI_d hA with ⟨rfl, rfl⟩ | ⟨zi, zv, rfl, hzv, hzc⟩
    · rfl
    · have lzi : zi < H.length := by simpa [Sc.bel] using bz
      exact slD_of encI_l dcI_e (by rw [oH I zi lzi, hzv]) rfl (by rw [oH I zi lzi, hzc])
  have pl := s_lplan_eq hAK (by omega)
  obtain ⟨y, hy⟩ : ∃ y : Jb, y = ⟨.sl (K.length + 1) 0 A.length (nN A).length, nN A, 0⟩ := ⟨_, rfl⟩
  obtain ⟨o1, ho1⟩ : ∃ o1 : AObj, o1 = .own [.sl (K.length + 1) 0 A.length (nN A).length, .i 0, .b false, .i 0] := ⟨_, rfl⟩
  rw [← ho1] at pl
  have I1 := I.plan hlt (A := A) (by omega) o1
  rw [← hy, lG] at I1
  have nd := I1.needs (k := k) (j := y) (by rw [List.getElem?_set, if_pos rfl, if_pos (by rw [I.jl]; exact hlt)])
  rw [lG] at nd
  have yL : y.L = nN A := by rw [hy]
  rw [yL] at nd
  have jb : jbc y = [.sl (K.length + 1) 0 A.length (nN A).length, .i 0, .b false, .i 0] := by
    rw [hy]
    unfold jbc jbC
    simp only
    rw [Nat.zero_min, Nat.zero_sub, decide_eq_false (Nat.not_lt_zero _)]; rfl
  have wrk := jbc_wr (J := J) (k := k) (by rw [I.jl]; exact hlt) y
  rw [jb] at wrk
  have gJ : ∀ X, hg (K ++ X) (H.length + 3) = .own (J.flatMap jbc) := fun X => by
    have := I.o
    rw [lG] at this
    rw [hg_lt' (by have := I.len; omega)]
    exact this
  have lJ : k * 4 + 4 ≤ (J.flatMap jbc).length := fm_le jbc_l (by rw [I.jl]; exact hlt)
  have G1 : w64 (2 * ((nN A).length : Int)) = 2 * ((nN A).length : Int) := w64_d (by omega) (by omega)
  have G2 : w64 ((st : Int) + 2 * ((nN A).length : Int)) = (st : Int) + 2 * ((nN A).length : Int) := w64_d (by omega) (by omega)
  have G3 : w64 ((st : Int) + 2 * ((nN A).length : Int) + 1) = ((st + 2 * (nN A).length + 1 : Nat) : Int) := by rw [w64_d (by omega) (by omega)]; omega
  (try simp (config := { maxSteps := 10000000 }) only [go_sem, seval, zl, kI, k0, kl, gK, gz, pl, gJ, lJ, wrk, nd, G1, G2, G3, E1, Int.toNat_natCast]; repeat (simp (disch := omega) only [w64_d, ipos, ineg, dpos, dneg]; try simp (config := { maxSteps := 10000000 }) only [go_sem, seval, zl, kI, k0, kl, gK, gz, pl, gJ, lJ, wrk, nd, G1, G2, G3, E1, Int.toNat_natCast]))
  (repeat' first | apply And.intro | (intro _; kernel_rfl) | kernel_rfl)
  rw [show H.length + 1 + 2 = H.length + 3 from rfl] at I1 ⊢
  have hy0 : y.L.length = (nN A).length := by rw [yL]
  have mp := max_put (y := y) (hd k (Nat.le_refl _) hlt)
  simp only [List.length_nil] at mp
  exact ⟨⟨(k + 1, st + 2 * (nN A).length + 1, _, J.set k y), by simp only; omega, I1.grw (Grw.refl.app _), by simp only; omega, by simp only; omega, fun j hj => by
    rcases List.mem_or_eq_of_mem_set hj with g | rfl
    · exact hJ j g
    · rw [yL]
      exact ⟨by rw [hy], n1, fun a ha => hr a ((n2 a).1 ha)⟩, fun i hi1 hi2 => by
    simp only at hi1
    rw [List.getElem?_set_ne (by omega)]
    exact hd i (by omega) hi2⟩, by simp only; omega, wkFL (by simp [Am.get])⟩
theorem fk_8L {s : Sc} (h : FitK s (.n .u8)) : ∃ x, s = .k .u8 x ∧ 0 ≤ x ∧ x ≤ 255 := by
  cases s with
  | k kd x =>
    simp only [FitK] at h
    obtain ⟨rfl, _, h⟩ := h
    exact ⟨x, rfl, h⟩
  | _ => simp [FitK] at h
theorem sig_lgoon (avs : List AV) (H : AH) (h : SigA [.asl 8 [.n .i64], .sl [.n .u8]] avs H) : s_lgoon avs H = some (.c (.b true)) := by
  have dec : ∀ cs, L2 FitK cs [.n .i64] → ∃ x : Int, cs = encI x ∧ True := fun cs gg => by
    obtain ⟨s1, l1, rfl, q1, g0⟩ := fit_cons gg
    obtain ⟨a, rfl, _, _⟩ := fk_i q1
    obtain rfl := fit_nil g0
    exact ⟨a, rfl, trivial⟩
  have de8 : ∀ cs, L2 FitK cs [.n .u8] → ∃ x : Int, cs = e8L x ∧ (0 ≤ x ∧ x ≤ 255) := fun cs gg => by
    obtain ⟨s1, l1, rfl, q1, g0⟩ := fit_cons gg
    obtain ⟨a, rfl, hh⟩ := fk_8L q1
    obtain rfl := fit_nil g0
    exact ⟨a, rfl, hh⟩
  obtain ⟨l, r1, rfl, hn, hl, h1⟩ := sig_asl h
  obtain ⟨x, r2, rfl, h2, P, hP, p8, _⟩ := sig_row (f := e8L) (w := 1) (dc := dc8L) (p := fun x => 0 ≤ x ∧ x ≤ 255) de8 e8L_l dc8L_e h1
  obtain rfl := sig_nil h2
  simp only [s_lgoon, hP]
  rw [if_pos]
  refine ⟨hn, fun s hs => ?_, p8⟩
  rcases hl s hs with rfl | ⟨id, n, rfl, g1, g2, g3, g4, g5, g6⟩
  · rfl
  · obtain ⟨L, e1, e2, e3⟩ := fit_rows dec n _ g6
    rw [slD_of encI_l dcI_e g2.symm e1.symm e2]; rfl
end
end
end Go.Proofs.Ythfccacopffkgaa
