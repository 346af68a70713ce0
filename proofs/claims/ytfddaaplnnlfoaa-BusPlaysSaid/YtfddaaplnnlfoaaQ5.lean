/- The clock of a bus: new ones, ticks, lines: contracts. -/
import Derived.Test.YtfddaaplnnlfoaaQ4
namespace Go.Proofs.Ytfddaaplnnlfoaa
open Go.Am
set_option linter.unusedSimpArgs false
set_option linter.unusedVariables false
noncomputable section

def ckT (c : Ck) (n : Int) : Ck := if 0 < n ∧ 0 < c.n then { c with t := c.t + BitVec.ofInt 64 n } else c
theorem ckT_ok {c : Ck} (h : CkOk c) (n : Int) : CkOk (ckT c n) := by
  unfold ckT
  split
  · exact h.t _
  · exact h
def ckL (c : Ck) (h : Int) : BitVec 64 := if h < 0 ∨ c.n ≤ h then 0#64 else (if c.s.getD h.toNat false = true then 8#64 else 0#64) ||| (if c.c.getD h.toNat 0#64 ≤ c.t then 128#64 else 0#64)
noncomputable def s_ctick (args : List AV) (H : AH) : Option (AV × AH) :=
  match args with
  | [.c x, .c (.i n)] => (ckQ H x).map fun c => (.t [], ckS H x (ckT c n))
  | _ => none
theorem s_ctick_eq {H : AH} {x : Sc} {c : Ck} (h : ckQ H x = some c) {n : Int} : s_ctick [.c x, .c (.i n)] H = some (.t [], ckS H x (ckT c n)) := by simp only [s_ctick, h, Option.map_some]
theorem len_ctick (args : List AV) (H : AH) (v : AV) (H1 : AH) (h : s_ctick args H = some (v, H1)) : H.length ≤ H1.length := by
  unfold s_ctick at h
  split at h
  · rw [Option.map_eq_some_iff] at h
    obtain ⟨c, _, h⟩ := h
    simp only [Prod.mk.injEq] at h
    rw [← h.2, ckS, setAt_len]; exact Nat.le_refl _
  · simp at h
set_option maxRecDepth 100000 in
set_option maxHeartbeats 2000000 in
theorem ok_ctick : FpOk Try.prog 30 s_ctick := by
  refine fp_ok (s := s_ctick) (tab := []) hmix TabOk.nil Try.func30 rfl Try.results30 Try.ntmps30 (by kernel_rfl) (by kernel_rfl) len_ctick ?_
  intro args H v H1 h hargs hH
  unfold s_ctick at h
  split at h
  · rename_i x n
    rw [Option.map_eq_some_iff] at h
    obtain ⟨c, hc, h⟩ := h
    simp only [Prod.mk.injEq] at h
    obtain ⟨rfl, rfl⟩ := h
    obtain ⟨id, o, cs, F, rfl, ck⟩ := ckQ_is hc
    have lid := ck.lid
    have ho := ck.ho
    have q := ck.q
    have d0 := ck.d0
    have d1 := ck.d1
    have w1 := fun v => wr_td (ck.w1 v)
    have hb := fun d => ck.bel d hH
    refine ⟨by simp only [List.length_cons, List.length_nil]; decide, ?_⟩
    rw [ck.set]
    by_cases hn : 0 < n
    · by_cases hc0 : 0 < c.n
      · have e : ckT c n = { c with t := c.t + BitVec.ofInt 64 n } := if_pos ⟨hn, hc0⟩
        rw [e]
        (try simp (config := { maxSteps := 10000000 }) only [go_sem, seval, ho, d0, d1, w1, hn, hc0]; repeat (simp (disch := omega) only [w64_d, ipos, ineg, dpos, dneg]; try simp (config := { maxSteps := 10000000 }) only [go_sem, seval, ho, d0, d1, w1, hn, hc0]))
        (repeat' first | apply And.intro | (intro c; exact absurd c (by omega)) | (intro _; kernel_rfl) | kernel_rfl)
        exact fin_fp rfl (subH_refl _) (hb _) (by simp)
      · have e : ckT c n = c := if_neg fun h => hc0 h.2
        rw [e, ck.self, ← ho, set_self rfl lid]
        (try simp (config := { maxSteps := 10000000 }) only [go_sem, seval, ho, d0, hn, hc0]; repeat (simp (disch := omega) only [w64_d, ipos, ineg, dpos, dneg]; try simp (config := { maxSteps := 10000000 }) only [go_sem, seval, ho, d0, hn, hc0]))
        exact fin_fp rfl (subH_refl _) hH (Nat.le_refl _)
    · have e : ckT c n = c := if_neg fun h => hn h.1
      rw [e, ck.self, ← ho, set_self rfl lid]
      (try simp (config := { maxSteps := 10000000 }) only [go_sem, seval, ho, d0, hn]; repeat (simp (disch := omega) only [w64_d, ipos, ineg, dpos, dneg]; try simp (config := { maxSteps := 10000000 }) only [go_sem, seval, ho, d0, hn]))
      exact fin_fp rfl (subH_refl _) hH (Nat.le_refl _)
  · simp at h
noncomputable def s_ctime (args : List AV) (H : AH) : Option AV :=
  match args with
  | [.c x] => (ckQ H x).map fun c => .c (.u c.t)
  | _ => none
theorem s_ctime_eq {H : AH} {x : Sc} {c : Ck} (h : ckQ H x = some c) : s_ctime [.c x] H = some (.c (.u c.t)) := by simp only [s_ctime, h, Option.map_some]
set_option maxRecDepth 100000 in
set_option maxHeartbeats 2000000 in
theorem ok_ctime : FpOk Try.prog 36 (fun args H => (s_ctime args H).map fun v => (v, H)) := by
  refine fq_ok (s := s_ctime) (tab := []) hmix TabOk.nil Try.func36 rfl Try.results36 Try.ntmps36 (by kernel_rfl) (by kernel_rfl) ?_
  intro args H v h hargs hH
  unfold s_ctime at h
  split at h
  · rename_i x
    rw [Option.map_eq_some_iff] at h
    obtain ⟨c, hc, rfl⟩ := h
    obtain ⟨id, o, cs, F, rfl, ck⟩ := ckQ_is hc
    have lid := ck.lid
    have ho := ck.ho
    have q := ck.q
    have d1 := ck.d1
    refine ⟨by simp only [List.length_cons, List.length_nil]; decide, rfl, ?_⟩
    (try simp (config := { maxSteps := 10000000 }) only [go_sem, seval, ho, d1]; repeat (simp (disch := omega) only [w64_d, ipos, ineg, dpos, dneg]; try simp (config := { maxSteps := 10000000 }) only [go_sem, seval, ho, d1]))
    exact subH_refl _
  · simp at h
noncomputable def s_clines (args : List AV) (H : AH) : Option AV :=
  match args with
  | [.c x, .c (.i h)] => (ckQ H x).map fun c => .c (.u (ckL c h))
  | _ => none
theorem s_clines_eq {H : AH} {x : Sc} {c : Ck} (h : ckQ H x = some c) {n : Int} : s_clines [.c x, .c (.i n)] H = some (.c (.u (ckL c n))) := by simp only [s_clines, h, Option.map_some]
set_option maxRecDepth 100000 in
set_option maxHeartbeats 2000000 in
theorem ok_clines : FpOk Try.prog 34 (fun args H => (s_clines args H).map fun v => (v, H)) := by
  refine fq_ok (s := s_clines) (tab := []) hmix TabOk.nil Try.func34 rfl Try.results34 Try.ntmps34 (by kernel_rfl) (by kernel_rfl) ?_
  intro args H v h hargs hH
  unfold s_clines at h
  split at h
  · rename_i x n
    rw [Option.map_eq_some_iff] at h
    obtain ⟨c, hc, rfl⟩ := h
    obtain ⟨id, o, cs, F, rfl, ck⟩ := ckQ_is hc
    have lid := ck.lid
    have ho := ck.ho
    have q := ck.q
    have d0 := ck.d0
    have d1 := ck.d1
    refine ⟨by simp only [List.length_cons, List.length_nil]; decide, rfl, ?_⟩
    have n8 := ck.ok.n1
    by_cases h0 : n < 0
    · (try simp (config := { maxSteps := 10000000 }) only [go_sem, seval, ho, d0, h0, ckL, true_or, if_true]; repeat (simp (disch := omega) only [w64_d, ipos, ineg, dpos, dneg]; try simp (config := { maxSteps := 10000000 }) only [go_sem, seval, ho, d0, h0, ckL, true_or, if_true]))
      exact subH_refl _
    by_cases h1 : c.n ≤ n
    · (try simp (config := { maxSteps := 10000000 }) only [go_sem, seval, ho, d0, h0, h1, ckL, or_true, if_true]; repeat (simp (disch := omega) only [w64_d, ipos, ineg, dpos, dneg]; try simp (config := { maxSteps := 10000000 }) only [go_sem, seval, ho, d0, h0, h1, ckL, or_true, if_true]))
      exact subH_refl _
    obtain ⟨k, rfl⟩ : ∃ k : Nat, n = (k : Int) := ⟨n.toNat, by omega⟩
    have hk : k < 8 := by omega
    have dc := ck.dc k hk
    have ds := ck.ds k hk
    rcases hs : c.s.getD k false with _ | _ <;> rcases Classical.propComplete (c.c.getD k 0#64 ≤ c.t) with ht | ht
    all_goals rw [hs] at ds
    all_goals (try simp (config := { maxSteps := 10000000 }) only [go_sem, seval, ho, d0, d1, dc, ds, hs, ht, h0, h1, ckL, or_false, if_false, if_true, Int.toNat_natCast]; repeat (simp (disch := omega) only [w64_d, ipos, ineg, dpos, dneg]; try simp (config := { maxSteps := 10000000 }) only [go_sem, seval, ho, d0, d1, dc, ds, hs, ht, h0, h1, ckL, or_false, if_false, if_true, Int.toNat_natCast]))
    all_goals exact subH_refl _
  · simp at h
/-! ### new ones -/
def cmI (i : Nat) : List (BitVec 64) := List.replicate i 18446744073709551615#64 ++ List.replicate (8 - i) 0#64
def ckI (h : Int) (i : Nat) : Ck := ⟨h, 0#64, cmI i, List.replicate 8 false⟩
def ckN (h : Int) : Ck := if 1 ≤ h ∧ h ≤ 8 then ckI h h.toNat else ckI 0 0
theorem cmI_l {i : Nat} (h : i ≤ 8) : (cmI i).length = 8 := by unfold cmI; simp; omega
theorem ckI_ok {h : Int} (h0 : 0 ≤ h) (h1 : h ≤ 8) {i : Nat} (hi : i ≤ 8) : CkOk (ckI h i) := ⟨cmI_l hi, by simp [ckI], h0, h1⟩
theorem ckN_ok (h : Int) : CkOk (ckN h) := by
  unfold ckN
  split
  · exact ckI_ok (by omega) (by omega) (by omega)
  · exact ckI_ok (by decide) (by decide) (by decide)
theorem cmI_set {i : Nat} (h : i < 8) : (cmI i).set i 18446744073709551615#64 = cmI (i + 1) := by
  have : i = 0 ∨ i = 1 ∨ i = 2 ∨ i = 3 ∨ i = 4 ∨ i = 5 ∨ i = 6 ∨ i = 7 := by omega
  rcases this with rfl | rfl | rfl | rfl | rfl | rfl | rfl | rfl <;> rfl
theorem ckI_wr {h : Int} (h0 : 0 ≤ h) (h1 : h ≤ 8) {i : Nat} (hi : i < 8) : List.take (2 + i) (ckC (ckI h i)) ++ Sc.u 18446744073709551615#64 :: List.drop (2 + i + 1) (ckC (ckI h i)) = ckC (ckI h (i + 1)) := by
  rw [wr_td (ckw_c (ckI_ok h0 h1 (by omega)) hi 18446744073709551615#64)]
  show ckC ⟨h, 0#64, (cmI i).set i _, List.replicate 8 false⟩ = _
  rw [cmI_set hi]; rfl
theorem ckC_pf (x : Ck) : (ckC x).all Sc.pf = true := by
  simp only [ckC, List.all_cons, List.all_append, List.all_map, Bool.and_eq_true]
  exact ⟨rfl, rfl, List.all_eq_true.2 fun _ _ => rfl, List.all_eq_true.2 fun _ _ => rfl⟩
theorem Wk.frq {n : Nat} {fr : Fr} {H : AH} {p : Fr × AH} (e : H = p.2) (h : Wk n fr H (p.1, H)) : Wk n fr H p := by subst e; exact h
theorem ckC_one (x : Ck) : (ckC x).all Sc.one = true := by
  simp only [ckC, List.all_cons, List.all_append, List.all_map, Bool.and_eq_true]
  exact ⟨rfl, rfl, List.all_eq_true.2 fun _ _ => rfl, List.all_eq_true.2 fun _ _ => rfl⟩
def s_cnew (args : List AV) : Option AV :=
  match args with
  | [.c (.i h)] => some (.g (ckC (ckN h)))
  | _ => none
theorem s_cnew_eq {h} : s_cnew [.c (.i h)] = some (.g (ckC (ckN h))) := rfl
set_option maxRecDepth 100000 in
set_option maxHeartbeats 2000000 in
theorem ok_cnew : PuOk Try.prog 25 s_cnew := by
  refine pu_ok (tab := []) hmix TabOk.nil Try.func25 rfl Try.results25 Try.ntmps25 (by kernel_rfl) (by kernel_rfl) ?_
  intro args v h
  unfold s_cnew at h
  split at h
  · rename_i h
    simp only [Option.some.injEq] at h; subst h
    have pp := ckC_pf (ckN h)
    refine ⟨by simp only [List.length_cons, List.length_nil]; decide, by first | rfl | simp only [List.all_cons, List.all_nil, AV.pf, Sc.pf, Bool.and_true, *], by first | rfl | simp only [List.all_cons, List.all_nil, AV.pf, Sc.pf, Bool.and_true, *], ?_⟩
    by_cases c1 : h < 1
    · have e : ckN h = ckI 0 0 := if_neg (by omega)
      rw [e]
      (try simp (config := { maxSteps := 10000000 }) only [go_sem, seval, c1]; repeat (simp (disch := omega) only [w64_d, ipos, ineg, dpos, dneg]; try simp (config := { maxSteps := 10000000 }) only [go_sem, seval, c1]))
      rfl
    by_cases c2 : 8 < h
    · have e : ckN h = ckI 0 0 := if_neg (by omega)
      rw [e]
      (try simp (config := { maxSteps := 10000000 }) only [go_sem, seval, c1, c2]; repeat (simp (disch := omega) only [w64_d, ipos, ineg, dpos, dneg]; try simp (config := { maxSteps := 10000000 }) only [go_sem, seval, c1, c2]))
      rfl
    obtain ⟨m, rfl⟩ : ∃ m : Nat, h = (m : Int) := ⟨h.toNat, by omega⟩
    have e : ckN (m : Int) = ckI m m := by unfold ckN; rw [if_pos (by omega), Int.toNat_natCast]
    rw [e]
    (try simp (config := { maxSteps := 10000000 }) only [go_sem, seval, c1, c2]; repeat (simp (disch := omega) only [w64_d, ipos, ineg, dpos, dneg]; try simp (config := { maxSteps := 10000000 }) only [go_sem, seval, c1, c2]))
    refine arun_for m (fun i => ([(0, .c (.i m)), (2, .c (.p 0 0 0)), (3, .c (.p 1 0 0)), (14, .c (.i m)), (15, .c (.i i))], [.own (ckC (ckI 0 0)), .own (ckC (ckI m i))])) (Wk.frq rfl (Wk.fq (by simp [Am.get]))) fun i hi => ?_
    have ll := ckC_l (ckI_ok (h := m) (by omega) (by omega) (i := i) (by omega))
    by_cases hlt : i < m
    · have w := ckI_wr (h := m) (by omega) (by omega) (i := i) (by omega)
      have e0 : (i : Int) < (m : Int) := by omega
      have e1 : w64 ((i : Int) + 1) = ((i + 1 : Nat) : Int) := by rw [w64_d (by omega) (by omega)]; omega
      (try simp (config := { maxSteps := 10000000 }) only [go_sem, seval, e0, e1, w, Int.toNat_natCast]; repeat (simp (disch := omega) only [w64_d, ipos, ineg, dpos, dneg]; try simp (config := { maxSteps := 10000000 }) only [go_sem, seval, e0, e1, w, Int.toNat_natCast]))
      exact ⟨i + 1, by omega, by omega, Wk.fq (by simp [Am.get])⟩
    · obtain rfl : i = m := by omega
      have t18 : List.take 18 (ckC (ckI i i)) = ckC (ckI i i) := List.take_of_length_le (by omega)
      have l0 : (ckC (ckI 0 0)).length = 18 := rfl
      have one := ckC_one (ckI i i)
      have dn : List.drop 18 (ckC (ckI 0 0)) = [] := rfl
      have r0 : ∀ l : List Sc, l.length = 18 → List.take 18 l = l := fun l h => List.take_of_length_le (by omega)
      (try simp (config := { maxSteps := 10000000 }) only [go_sem, seval, t18, ll, l0, one, dn]; repeat (simp (disch := omega) only [w64_d, ipos, ineg, dpos, dneg]; try simp (config := { maxSteps := 10000000 }) only [go_sem, seval, t18, ll, l0, one, dn]))
      done
  · simp at h
end
end Go.Proofs.Ytfddaaplnnlfoaa
