/- Layer 32: bytes of memory: the law. -/
import Derived.Test.YtcbhelkafelofaaGreatFlD
namespace Go.Proofs.YtcbhelkafelofaaGreat
open Go.Am
set_option linter.unusedSimpArgs false
set_option linter.unusedVariables false
noncomputable section
set_option maxRecDepth 100000

theorem layB_by {B b : List Int} {k : Nat} (h1 : ∀ x ∈ B, 0 ≤ x ∧ x ≤ 255) (h2 : ∀ x ∈ b, 0 ≤ x ∧ x ≤ 255) : ∀ x ∈ layB B k b, 0 ≤ x ∧ x ≤ 255 := fun x hx => by
  unfold layB at hx
  rw [List.mem_append, List.mem_append] at hx
  rcases hx with (hx | hx) | hx
  · exact h1 x (List.mem_of_mem_take hx)
  · exact h2 x hx
  · exact h1 x (List.mem_of_mem_drop hx)
section
variable {H : AH}
theorem cut_keep {K J : AH} {x : Sc} {b : List Int} (h : cutF K x = some b) (hk : ∀ i, sidF x = some i → hg J i = hg K i) : cutF J x = some b := by
  rcases cutF_inv h with ⟨rfl, rfl⟩ | ⟨i, o, rfl, _⟩
  · rfl
  · rw [← h]
    unfold cutF
    simp only [hk i rfl]
theorem wdV_set {K J : AH} {p i : Nat} {B C : List Int} (h : wdV K p = some (i, B)) (hl : C.length = B.length) (h1 : hg J p = hg K p) (h2 : hg J i = .vec 1 (C.flatMap e8F)) : wdV J p = some (i, C) := by
  obtain ⟨⟨a, b, c, d, r, g1⟩, _⟩ := wdV_inv h
  exact wdV_of (r := r) (by rw [h1, g1, hl]) h2
/-- bytes are laid into a world, and into the document's memory -/
theorem fb_step {K : AH} {p i j : Nat} {B b : List Int} {x : Sc} {o : BitVec 64} (hw : wdV K p = some (i, B)) (hj : hg K j = .vec 1 (B.flatMap e8F)) (pi : p ≠ i) (pj : p ≠ j) (ij : i ≠ j) (hx : cutF K x = some b) (xi : sidF x ≠ some i) (xj : sidF x ≠ some j)
    (hB : B.length ≤ 262144) (hb : b.length ≤ 262144) (c1 : ∀ y ∈ B, 0 ≤ y ∧ y ≤ 255) (c2 : ∀ y ∈ b, 0 ≤ y ∧ y ≤ 255) :
    ∃ q K4 K5 C, s_flay [.c (.p p 0 0), .c (.u o), .c x] K = some (.c (.b q), K4) ∧ s_frfill [.g [.sl j 0 B.length B.length], .c (.u o), .c x] K4 = some (.c (.b q), K5) ∧ wdV K5 p = some (i, C) ∧ hg K5 j = .vec 1 (C.flatMap e8F) ∧ C.length = B.length ∧
      (∀ y ∈ C, 0 ≤ y ∧ y ≤ 255) ∧ (∀ k, k < K.length → k ≠ i → k ≠ j → hg K5 k = hg K k ∧ hg K4 k = hg K k) ∧ K.length ≤ K4.length ∧ K4.length ≤ K5.length := by
  obtain ⟨⟨a1, a2, a3, a4, r, g1⟩, g2⟩ := wdV_inv hw
  have lp : p < K.length := hg_lt (by rw [g1]; rfl)
  have li : i < K.length := hg_lt (by rw [g2]; rfl)
  have lj : j < K.length := hg_lt (by rw [hj]; rfl)
  have f1 := s_flay_eq (a := o) hw hx hB hb
  by_cases b0 : b = []
  · rw [if_pos b0] at f1
    have f2 := s_frfill_eq (a := o) hj hx hB hb xj
    rw [if_pos b0] at f2
    refine ⟨true, K, _, B, f1, f2, wdV_set hw rfl (hg_lt' lp) (by rw [hg_lt' li, g2]), by rw [hg_lt' lj, hj], rfl, c1, fun k hk _ _ => ⟨hg_lt' hk, rfl⟩, Nat.le_refl _, by simp⟩
  rw [if_neg b0] at f1
  by_cases hh : hasF B.length o b.length = true
  · rw [if_pos hh] at f1
    obtain ⟨K4, hK4⟩ : ∃ K4 : AH, K4 = K.set i (.vec 1 ((layB B (ofF o) b).flatMap e8F)) := ⟨_, rfl⟩
    rw [← hK4] at f1
    have l4 : K4.length = K.length := by rw [hK4, List.length_set]
    have k4 : ∀ k, k ≠ i → hg K4 k = hg K k := fun k hk => by rw [hK4, hg_set_ne' (fun c => hk c.symm)]
    have f2 := s_frfill_eq (a := o) (H := K4) (by rw [k4 j (fun c => ij c.symm), hj]) (cut_keep hx fun k hk => k4 k (fun c => xi (by rw [hk, c]))) hB hb xj
    rw [if_neg b0, if_pos hh] at f2
    have hh' := hh
    rw [hasF_iff] at hh'
    have lC : (layB B (ofF o) b).length = B.length := layB_len (by omega)
    have k5 : ∀ (X : AObj) k, k < K.length → k ≠ j → hg (K4.set j (.vec 1 ((layB B (ofF o) b).flatMap e8F)) ++ [X]) k = hg K4 k := fun X k hk hne => by rw [hg_lt' (by simp; omega), hg_set_ne' (fun c => hne c.symm)]
    refine ⟨true, K4, _, layB B (ofF o) b, f1, f2, wdV_set hw lC ?_ ?_, ?_, lC, layB_by c1 c2, fun k hk h1 h2 => ⟨?_, k4 k h1⟩, by omega, by simp⟩
    · rw [k5 _ p lp pj, k4 p pi]
    · rw [k5 _ i li ij, hK4, hg_set_same li]
    · rw [hg_lt' (by simp; omega), hg_set_same (by omega)]
    · rw [k5 _ k hk h2, k4 k h1]
  · rw [if_neg hh] at f1
    have f2 := s_frfill_eq (a := o) hj hx hB hb xj
    rw [if_neg b0, if_neg hh] at f2
    refine ⟨false, K, _, B, f1, f2, wdV_set hw rfl (hg_lt' lp) (by rw [hg_lt' li, g2]), by rw [hg_lt' lj, hj], rfl, c1, fun k hk _ _ => ⟨hg_lt' hk, rfl⟩, Nat.le_refl _, by simp⟩
theorem subH_ofF {H K : AH} (hl : H.length ≤ K.length) (h : ∀ k, k < H.length → hg K k = hg H k) : subH H K := by
  induction H generalizing K with
  | nil => exact trivial
  | cons o r ih =>
    cases K with
    | nil => simp at hl
    | cons o' r' =>
      refine ⟨.inr ?_, ih (by simpa using hl) fun k hk => ?_⟩
      · have := h 0 (by simp); simpa [hg] using this.symm
      · have := h (k + 1) (by simpa using hk); simpa [hg] using this
def s_flb (args : List AV) (H : AH) : Option AV :=
  match args with
  | [.c (.u _), .c (.u _), .c x, .c (.i n)] =>
    match slD 1 d8F H x with
    | some b => if n ≤ 9223372036854775807 ∧ (∀ y ∈ b, 0 ≤ y ∧ y ≤ 255) then some (.c (.b true)) else none
    | none => none
  | _ => none
set_option maxRecDepth 100000 in
set_option maxHeartbeats 2000000 in
theorem ok_flb : FpOk Tryz.prog 3 (fun args H => (s_flb args H).map fun v => (v, H)) := by
  refine fq_ok (s := s_flb) (tab := [(5, .fq s_fload), (6, .pu s_fresv0), (7, .fq s_freplay), (8, .fq s_fdo1), (9, .fp s_flay), (10, .fp s_fbytes), (11, .pu s_fbus0), (12, .pu s_fclo0), (13, .pu s_fsame0), (14, .pu s_fconf0), (15, .fq s_fmay1), (16, .pu s_flive), (17, .fp s_fnew), (18, .fp s_frnew), (19, .fp s_frfill), (20, .fq s_frload), (21, .fq s_fbeq)]) hmix (TabOk.cons (e := .fq s_fload) ok_fload (TabOk.cons (e := .pu s_fresv0) ok_fresv0 (TabOk.cons (e := .fq s_freplay) ok_freplay (TabOk.cons (e := .fq s_fdo1) ok_fdo1 (TabOk.cons (e := .fp s_flay) ok_flay (TabOk.cons (e := .fp s_fbytes) ok_fbytes (TabOk.cons (e := .pu s_fbus0) ok_fbus0 (TabOk.cons (e := .pu s_fclo0) ok_fclo0 (TabOk.cons (e := .pu s_fsame0) ok_fsame0 (TabOk.cons (e := .pu s_fconf0) ok_fconf0 (TabOk.cons (e := .fq s_fmay1) ok_fmay1 (TabOk.cons (e := .pu s_flive) ok_flive (TabOk.cons (e := .fp s_fnew) ok_fnew (TabOk.cons (e := .fp s_frnew) ok_frnew (TabOk.cons (e := .fp s_frfill) ok_frfill (TabOk.cons (e := .fq s_frload) ok_frload (TabOk.cons (e := .fq s_fbeq) ok_fbeq TabOk.nil))))))))))))))))) Tryz.func3 rfl Tryz.results3 Tryz.ntmps3 (by kernel_rfl) (by kernel_rfl) ?_
  intro args H v h hargs hH
  unfold s_flb at h
  split at h <;> try (simp at h; done)
  rename_i a o x n
  split at h <;> try (simp at h; done)
  rename_i b hb
  split at h <;> try (simp at h; done)
  rename_i hc
  obtain ⟨hn, hby⟩ := hc
  simp only [Option.some.injEq] at h
  subst h
  refine ⟨by simp only [List.length_cons, List.length_nil]; decide, rfl, ?_⟩
  simp only [List.all_cons, AV.bel, Bool.and_eq_true] at hargs
  have bx := hargs.2.2.1
  have hx : cutF H x = some b := by
    rcases slD_inv d8F_d hb with ⟨rfl, rfl⟩ | ⟨id, v, rfl, hv, hcs⟩
    · rfl
    · unfold cutF
      simp only [hcs, e8_len, List.drop_zero]
      rw [if_pos ⟨hv, by omega⟩, List.take_of_length_le (by rw [e8_len]; exact Nat.le_refl _), byF_of]
  have xl := cutF_len hx
  have xs := cutF_isS hx
  have xlt : ∀ i, sidF x = some i → i < H.length := fun i hi => by
    cases x <;> simp [sidF] at hi
    subst hi
    simpa [Sc.bel] using bx
  have hxX : ∀ X, cutF (H ++ X) x = some b := fun X => cut_keep hx fun i hi => hg_lt' (xlt i hi)
  have d0 : ∀ K : AH, s_fdo1 [.c .nilp, .c (.i 0), .g [.i 15, .u 0#64, .u 0#64, .i 0, .i 0, .i 0, .u 0#64, .u 0#64, .b false, .i 0, .b false, .b false, .b false, .u 0#64, .i 0, .i 0, .u 0#64, .i 0, .u 0#64]] K = some (.t [.g (ansF 0#64), .c (.b false)]) := fun K => by
    simp only [s_fdo1]
    rw [if_pos ⟨rfl, rfl⟩]
  have m0 : ∀ K : AH, s_fmay1 [.c .nilp, .c (.i 0), .g [.i 15, .u 0#64, .u 0#64, .i 0, .i 0, .i 0, .u 0#64, .u 0#64, .b false, .i 0, .b false, .b false, .b false, .u 0#64, .i 0, .i 0, .u 0#64, .i 0, .u 0#64]] K = some (.c (.b false)) := fun K => s_fmay1_nil rfl rfl
  by_cases c1 : 300 < b.length
  · have c1' := eq_true (show (300 : Int) < b.length by omega)
    simp only [ansF, rowC_0] at d0
    (try simp (config := { maxSteps := 10000000 }) only [go_sem, seval, s_fload_nil, s_fresv0_eq, s_freplay_nil, d0, s_flay_nil, s_fbytes_nil, s_fbus0_eq, s_fclo0_eq, s_fsame0_eq, s_fconf0_eq, m0, xl, xs, as_len_y, c1', s_flive_eq]; repeat (simp (disch := omega) only [w64_d, ipos, ineg, dpos, dneg]; try simp (config := { maxSteps := 10000000 }) only [go_sem, seval, s_fload_nil, s_fresv0_eq, s_freplay_nil, d0, s_flay_nil, s_fbytes_nil, s_fbus0_eq, s_fclo0_eq, s_fsame0_eq, s_fconf0_eq, m0, xl, xs, as_len_y, c1', s_flive_eq]))
    exact subH_app _ _
  have c1' : ¬ ((300 : Int) < b.length) := by omega
  obtain ⟨K2, hK2⟩ : ∃ K2 : AH, K2 = (H ++ [AObj.own (ansF 0#64)]) ++ nwF (H.length + 1) 1 1 3 1 := ⟨_, rfl⟩
  have lA : (H ++ [AObj.own (ansF 0#64)]).length = H.length + 1 := by simp
  have n1 : s_fnew [.g [.i 1, .i 1, .i 3, .i 1]] (H ++ [AObj.own (ansF 0#64)]) = some (.t [.c (.p (H.length + 5) 0 0), .c (.i 0)], K2) := by
    simp only [s_fnew]
    rw [if_pos (by decide), lA, hK2]
  have l2 : K2.length = H.length + 6 := by rw [hK2, List.length_append, lA]; rfl
  obtain ⟨K3, hK3⟩ : ∃ K3 : AH, K3 = K2 ++ [AObj.own [.sl (H.length + 7) 0 192 192], .vec 1 (List.replicate 192 (.k .u8 0))] := ⟨_, rfl⟩
  have n2 : s_frnew [.c (.i 3)] K2 = some (.g [.sl (H.length + 7) 0 192 192], K3) := by
    rw [s_frnew_eq ⟨by decide, by decide⟩, l2, hK3]; rfl
  have l3 : K3.length = H.length + 8 := by rw [hK3, List.length_append, l2]; rfl
  have old3 : ∀ k, k < H.length → ∀ X, hg (K3 ++ X) k = hg H k := fun k hk X => by rw [hg_lt' (by omega), hK3, hg_lt' (by omega), hK2, hg_lt' (by omega), hg_lt' hk]
  have w3 : ∀ X, wdV (K3 ++ X) (H.length + 5) = some (H.length + 4, List.replicate 192 0) := fun X => by
    have := nwF_V (H := H ++ [AObj.own (ansF 0#64)]) 1 1 3 1 ([AObj.own [.sl (H.length + 7) 0 192 192], .vec 1 (List.replicate 192 (.k .u8 0))] ++ X)
    rw [lA] at this
    rw [hK3, hK2]
    simp only [List.append_assoc] at this ⊢
    exact this
  have j3 : ∀ X, hg (K3 ++ X) (H.length + 7) = .vec 1 ((List.replicate 192 (0 : Int)).flatMap e8F) := fun X => by
    rw [hg_lt' (by omega), hK3, ← rep_e8]
    have := hg_len_add (H := K2) (X := [AObj.own [.sl (H.length + 7) 0 192 192], .vec 1 (List.replicate 192 (.k .u8 0))]) (n := 1)
    rw [l2] at this
    rw [this]; rfl
  have t3 : hg (K3 ++ [AObj.own [.sl (H.length + 7) 0 192 192]]) (H.length + 8) = .own [.sl (H.length + 7) 0 192 192] := by rw [← l3, hg_len]; rfl
  have z3 : ∀ y ∈ List.replicate 192 (0 : Int), 0 ≤ y ∧ y ≤ 255 := fun y hy => by rw [List.eq_of_mem_replicate hy]; omega
  obtain ⟨q, K4, K5, C, f1, f2, w5, j5, lC, cb, keep, l4, l5⟩ := fb_step (o := o) (w3 [.own [.sl (H.length + 7) 0 192 192]]) (j3 _) (by omega) (by omega) (by omega) (x := x) (b := b) (cut_keep hx fun i hi => old3 i (xlt i hi) _) (fun c => by have := xlt _ c; omega) (fun c => by have := xlt _ c; omega) (by rw [List.length_replicate]; decide) (by omega) z3 hby
  rw [List.length_replicate] at f2 lC
  have l4' : H.length + 9 ≤ K4.length := by rw [List.length_append, l3] at l4; exact l4
  obtain ⟨t5, t4⟩ := keep (H.length + 8) (by rw [List.length_append, l3]; exact Nat.lt_succ_self _) (by omega) (by omega)
  rw [t3] at t5 t4
  have old5 : ∀ k, k < H.length → hg K5 k = hg H k := fun k hk => by rw [(keep k (by rw [List.length_append, l3]; omega) (by omega) (by omega)).1, old3 k hk]
  have t5X : ∀ X, hg (K5 ++ X) (H.length + 8) = .own [.sl (H.length + 7) 0 192 192] := fun X => by rw [hg_lt' (by omega), t5]
  obtain ⟨v, ok, hld⟩ : ∃ v ok, ldV C a n = .t [.c (.u v), .c (.b ok)] := by
    unfold ldV
    split
    · exact ⟨_, _, rfl⟩
    · exact ⟨_, _, rfl⟩
  have g1 := s_fload_eq (a := a) (wdV_R w5) (by rw [lC]; decide) hn
  have cv := cutF_vec j5
  rw [lC] at cv
  have g2 := s_frload_eq (a := a) (n := n) cv (by rw [lC]; decide) hn cb
  rw [hld] at g1 g2
  have g3 := s_fbytes_eq w5 (by rw [lC]; decide) (by rw [lC]; decide)
  rw [lC] at g3
  have g4 : s_fbeq [.c (.sl K5.length 0 192 192), .c (.sl (H.length + 7) 0 192 192)] (K5 ++ [.vec 1 (C.flatMap e8F)]) = some (.c (.b true)) := by
    have c2 := cutF_vec (H := K5 ++ [.vec 1 (C.flatMap e8F)]) (id := K5.length) (B := C) (by rw [hg_len]; rfl)
    have c3 := cutF_vec (H := K5 ++ [.vec 1 (C.flatMap e8F)]) (id := H.length + 7) (B := C) (by rw [hg_lt' (by omega), j5])
    rw [lC] at c2 c3
    exact s_fbeq_eq c2 c3 (by rw [lC]; decide)
  simp only [ansF, rowC_0] at d0 n1
  have sq : ∀ X, subH H (K5 ++ X) := fun X => subH_ofF (by rw [List.length_append]; omega) fun k hk => by rw [hg_lt' (by omega), old5 k hk]
  have hZ : ∀ O : AObj, hg (K3 ++ [O]) (H.length + 8) = O := fun O => by rw [← l3, hg_len]; rfl
  have sZ : ∀ O Q : AObj, (K3 ++ [O]).set (H.length + 8) Q = K3 ++ [Q] := fun O Q => by rw [← l3, List.set_append_right _ _ (Nat.le_refl _), Nat.sub_self]; rfl
  cases q
  all_goals cases ok
  all_goals (try simp (config := { maxSteps := 10000000 }) only [go_sem, seval, s_fload_nil, s_fresv0_eq, s_freplay_nil, d0, s_flay_nil, s_fbytes_nil, s_fbus0_eq, s_fclo0_eq, s_fsame0_eq, s_fconf0_eq, m0, xl, xs, as_len_y, c1', s_flive_eq, n1, n2, l3, hZ, sZ, f1, f2, t3, t4, t5, t5X, g1, g2, g3, g4]; repeat (simp (disch := omega) only [w64_d, ipos, ineg, dpos, dneg]; try simp (config := { maxSteps := 10000000 }) only [go_sem, seval, s_fload_nil, s_fresv0_eq, s_freplay_nil, d0, s_flay_nil, s_fbytes_nil, s_fbus0_eq, s_fclo0_eq, s_fsame0_eq, s_fconf0_eq, m0, xl, xs, as_len_y, c1', s_flive_eq, n1, n2, l3, hZ, sZ, f1, f2, t3, t4, t5, t5X, g1, g2, g3, g4]))
  all_goals exact ⟨by kernel_rfl, by kernel_rfl, sq _⟩
theorem fk_8F {s : Sc} (h : FitK s (.n .u8)) : ∃ x, s = .k .u8 x ∧ 0 ≤ x ∧ x ≤ 255 := by
  cases s with
  | k kd x =>
    simp only [FitK] at h
    obtain ⟨rfl, _, h⟩ := h
    exact ⟨x, rfl, h⟩
  | _ => simp [FitK] at h
theorem sig_flb (avs : List AV) (H : AH) (h : SigA [.fl false [.n .u64], .fl false [.n .u64], .sl [.n .u8], .fl false [.n .i64]] avs H) : s_flb avs H = some (.c (.b true)) := by
  have de8 : ∀ cs, L2 FitK cs [.n .u8] → ∃ x : Int, cs = e8F x ∧ (0 ≤ x ∧ x ≤ 255) := fun cs gg => by
    obtain ⟨s1, l1, rfl, q1, g0⟩ := fit_cons gg
    obtain ⟨a, rfl, hh⟩ := fk_8F q1
    obtain rfl := fit_nil g0
    exact ⟨a, rfl, hh⟩
  obtain ⟨s1, r1, rfl, k1, h1⟩ := sig_c h
  obtain ⟨a, rfl⟩ := fk_u k1
  obtain ⟨s2, r2, rfl, k2, h2⟩ := sig_c h1
  obtain ⟨o, rfl⟩ := fk_u k2
  obtain ⟨x, r3, rfl, h3, P, hP, p8, _⟩ := sig_row (f := e8F) (w := 1) (dc := d8F) (p := fun x => 0 ≤ x ∧ x ≤ 255) de8 e8F_l d8F_e h2
  obtain ⟨s4, r4, rfl, k4, h4⟩ := sig_c h3
  obtain ⟨n, rfl, _, hn⟩ := fk_i k4
  obtain rfl := sig_nil h4
  simp only [s_flb, hP]
  rw [if_pos ⟨hn, p8⟩]
end
end
end Go.Proofs.YtcbhelkafelofaaGreat
