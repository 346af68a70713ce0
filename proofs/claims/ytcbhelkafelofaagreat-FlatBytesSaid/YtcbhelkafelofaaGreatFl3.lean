/- Layer 32: what a world is made of: contracts. -/
import Derived.Test.YtcbhelkafelofaaGreatFl2
namespace Go.Proofs.YtcbhelkafelofaaGreat
open Go.Am
set_option linter.unusedSimpArgs false
set_option linter.unusedVariables false
noncomputable section
set_option maxRecDepth 100000

theorem fin_sameF {n : Nat} {v : AV} {H : AH} : ∃ v', some v = some v' ∧ Wk n [(0, v')] H ([(0, v)], H) :=
  ⟨_, rfl, fun ρ _ _ h1 h2 => ⟨ρ, h1, h2, fun i _ hi hL _ => ⟨i, hi, hL⟩, fun _ _ => rfl⟩⟩
/-! ### a bus, of which nothing is told but where it stands -/
def fcC (n : Int) (i : Nat) : List Sc := .i n :: .u 0#64 :: (List.replicate i (.u 18446744073709551615#64) ++ (List.replicate (8 - i) (.u 0#64) ++ List.replicate 8 (.b false)))
theorem fcC_l {n : Int} {i : Nat} (h : i ≤ 8) : (fcC n i).length = 18 := by unfold fcC; simp; omega
theorem fcC_wr {n : Int} {i : Nat} (h : i < 8) : List.take (2 + i) (fcC n i) ++ Sc.u 18446744073709551615#64 :: List.drop (2 + i + 1) (fcC n i) = fcC n (i + 1) := by
  have : i = 0 ∨ i = 1 ∨ i = 2 ∨ i = 3 ∨ i = 4 ∨ i = 5 ∨ i = 6 ∨ i = 7 := by omega
  rcases this with rfl | rfl | rfl | rfl | rfl | rfl | rfl | rfl <;> rfl
theorem fcC_pf (n : Int) (i : Nat) : (fcC n i).all Sc.pf = true := by
  simp only [fcC, List.all_cons, List.all_append, List.all_replicate]
  simp [Sc.pf]
theorem fcC_one (n : Int) (i : Nat) : (fcC n i).all Sc.one = true := by
  simp only [fcC, List.all_cons, List.all_append, List.all_replicate]
  simp [Sc.one]
theorem Wk.frqF {n : Nat} {fr : Fr} {H : AH} {p : Fr × AH} (e : H = p.2) (h : Wk n fr H (p.1, H)) : Wk n fr H p := by subst e; exact h
def s_fcnew (args : List AV) : Option AV :=
  match args with
  | [.c (.i h)] => if 1 ≤ h ∧ h ≤ 8 then some (.g (fcC h h.toNat)) else none
  | _ => none
theorem s_fcnew_eq {h} : s_fcnew [.c (.i h)] = if 1 ≤ h ∧ h ≤ 8 then some (.g (fcC h h.toNat)) else none := rfl
set_option maxRecDepth 100000 in
set_option maxHeartbeats 2000000 in
theorem ok_fcnew : PuOk Tryz.prog 84 s_fcnew := by
  refine pu_ok (tab := []) hmix TabOk.nil Tryz.func84 rfl Tryz.results84 Tryz.ntmps84 (by kernel_rfl) (by kernel_rfl) ?_
  intro args v h
  unfold s_fcnew at h
  split at h
  · rename_i h
    split at h
    · rename_i hc
      simp only [Option.some.injEq] at h; subst h
      have pp := fcC_pf h h.toNat
      refine ⟨by simp only [List.length_cons, List.length_nil]; decide, by first | rfl | simp only [List.all_cons, List.all_nil, AV.pf, Sc.pf, Bool.and_true, *], by first | rfl | simp only [List.all_cons, List.all_nil, AV.pf, Sc.pf, Bool.and_true, *], ?_⟩
      have c1 : ¬ h < 1 := by omega
      have c2 : ¬ 8 < h := by omega
      obtain ⟨m, rfl⟩ : ∃ m : Nat, h = (m : Int) := ⟨h.toNat, by omega⟩
      rw [Int.toNat_natCast]
      (try simp (config := { maxSteps := 10000000 }) only [go_sem, seval, c1, c2]; repeat (simp (disch := omega) only [w64_d, ipos, ineg, dpos, dneg]; try simp (config := { maxSteps := 10000000 }) only [go_sem, seval, c1, c2]))
      refine arun_for m (fun i => ([(0, .c (.i m)), (2, .c (.p 0 0 0)), (3, .c (.p 1 0 0)), (14, .c (.i m)), (15, .c (.i i))], [.own (fcC 0 0), .own (fcC m i)])) (Wk.frqF rfl (wkF (by simp [Am.get]))) fun i hi => ?_
      have ll := fcC_l (n := m) (i := i) (by omega)
      by_cases hlt : i < m
      · have w := fcC_wr (n := m) (i := i) (by omega)
        have e0 : (i : Int) < (m : Int) := by omega
        have e1 : w64 ((i : Int) + 1) = ((i + 1 : Nat) : Int) := by rw [w64_d (by omega) (by omega)]; omega
        (try simp (config := { maxSteps := 10000000 }) only [go_sem, seval, e0, e1, w, Int.toNat_natCast]; repeat (simp (disch := omega) only [w64_d, ipos, ineg, dpos, dneg]; try simp (config := { maxSteps := 10000000 }) only [go_sem, seval, e0, e1, w, Int.toNat_natCast]))
        exact ⟨i + 1, by omega, by omega, wkF (by simp [Am.get])⟩
      · obtain rfl : i = m := by omega
        have t18 : List.take 18 (fcC i i) = fcC i i := List.take_of_length_le (by omega)
        have l0 : (fcC 0 0).length = 18 := rfl
        have one := fcC_one i i
        have dn : List.drop 18 (fcC 0 0) = [] := rfl
        (try simp (config := { maxSteps := 10000000 }) only [go_sem, seval, t18, ll, l0, one, dn]; repeat (simp (disch := omega) only [w64_d, ipos, ineg, dpos, dneg]; try simp (config := { maxSteps := 10000000 }) only [go_sem, seval, t18, ll, l0, one, dn]))
        done
    · simp at h
  · simp at h
def fpC (n : Int) : List Sc := .i n :: (List.replicate 32 (.k .u8 0) ++ (.k .u32 0 :: .k .u32 0 :: .k .u32 0 :: (List.replicate 16 (.k .u32 0) ++ List.replicate 16 (.k .u8 0))))
theorem fpC_l (n : Int) : (fpC n).length = 68 := rfl
theorem fpC_pf (n : Int) : (fpC n).all Sc.pf = true := rfl
theorem fpC_one (n : Int) : (fpC n).all Sc.one = true := rfl
def s_fpnew (args : List AV) : Option AV :=
  match args with
  | [.c (.i h)] => if 1 ≤ h ∧ h ≤ 8 then some (.g (fpC h)) else none
  | _ => none
theorem s_fpnew_eq {h} : s_fpnew [.c (.i h)] = if 1 ≤ h ∧ h ≤ 8 then some (.g (fpC h)) else none := rfl
set_option maxRecDepth 100000 in
set_option maxHeartbeats 2000000 in
theorem ok_fpnew : PuOk Tryz.prog 85 s_fpnew := by
  refine pu_ok (tab := []) hmix TabOk.nil Tryz.func85 rfl Tryz.results85 Tryz.ntmps85 (by kernel_rfl) (by kernel_rfl) ?_
  intro args v h
  unfold s_fpnew at h
  split at h
  · rename_i h
    split at h
    · rename_i hc
      simp only [Option.some.injEq] at h; subst h
      have pp := fpC_pf h
      refine ⟨by simp only [List.length_cons, List.length_nil]; decide, by first | rfl | simp only [List.all_cons, List.all_nil, AV.pf, Sc.pf, Bool.and_true, *], by first | rfl | simp only [List.all_cons, List.all_nil, AV.pf, Sc.pf, Bool.and_true, *], ?_⟩
      have c1 : ¬ h < 1 := by omega
      have c2 : ¬ 8 < h := by omega
      (try simp (config := { maxSteps := 10000000 }) only [go_sem, seval, c1, c2]; repeat (simp (disch := omega) only [w64_d, ipos, ineg, dpos, dneg]; try simp (config := { maxSteps := 10000000 }) only [go_sem, seval, c1, c2]))
      rfl
    · simp at h
  · simp at h
def foC : List Sc := [.k .u8 0, .k .u8 0, .k .u8 0, .k .u8 0, .k .u8 0, .k .u8 0, .b false, .b false, .b false, .nils, .nils]
def s_funew (args : List AV) (H : AH) : Option (AV × AH) :=
  match args with
  | [] => some (.c (.p H.length 0 0), H ++ [.own foC])
  | _ => none
theorem len_funew (args : List AV) (H : AH) (v : AV) (H1 : AH) (h : s_funew args H = some (v, H1)) : H.length ≤ H1.length := by
  unfold s_funew at h
  split at h
  · simp at h; rw [← h.2]; simp
  · simp at h
set_option maxRecDepth 100000 in
set_option maxHeartbeats 2000000 in
theorem ok_funew : FpOk Tryz.prog 83 s_funew := by
  refine fp_ok (s := s_funew) (tab := []) hmix TabOk.nil Tryz.func83 rfl Tryz.results83 Tryz.ntmps83 (by kernel_rfl) (by kernel_rfl) len_funew ?_
  intro args H v H1 h hargs hH
  unfold s_funew at h
  split at h
  · simp only [Option.some.injEq, Prod.mk.injEq] at h
    obtain ⟨rfl, rfl⟩ := h
    refine ⟨by simp only [List.length_cons, List.length_nil]; decide, ?_⟩
    (try simp (config := { maxSteps := 10000000 }) only [go_sem, seval]; repeat (simp (disch := omega) only [w64_d, ipos, ineg, dpos, dneg]; try simp (config := { maxSteps := 10000000 }) only [go_sem, seval]))
    exact fin_sameF
  · simp at h
theorem s_funew_eq {H : AH} : s_funew [] H = some (.c (.p H.length 0 0), H ++ [.own foC]) := rfl
def fbC (m : Nat) (n : Int) : List Sc := .p m 0 0 :: .i n :: (fcC n n.toNat ++ fpC n)
def s_fbnew (args : List AV) (H : AH) : Option (AV × AH) :=
  match args with
  | [.c (.i n)] => if 1 ≤ n ∧ n ≤ 8 then some (.t [.c (.p (H.length + 1) 0 0), .c (.i 0)], H ++ [.own foC, .own (fbC H.length n)]) else none
  | _ => none
theorem s_fbnew_eq {H : AH} {n : Int} (h : 1 ≤ n ∧ n ≤ 8) : s_fbnew [.c (.i n)] H = some (.t [.c (.p (H.length + 1) 0 0), .c (.i 0)], H ++ [.own foC, .own (fbC H.length n)]) := if_pos h
theorem len_fbnew (args : List AV) (H : AH) (v : AV) (H1 : AH) (h : s_fbnew args H = some (v, H1)) : H.length ≤ H1.length := by
  unfold s_fbnew at h
  repeat' split at h
  · simp at h; rw [← h.2]; simp
  · simp at h
  · simp at h
set_option maxRecDepth 100000 in
set_option maxHeartbeats 2000000 in
theorem ok_fbnew : FpOk Tryz.prog 45 s_fbnew := by
  refine fp_ok (s := s_fbnew) (tab := [(83, .fp s_funew), (84, .pu s_fcnew), (85, .pu s_fpnew)]) hmix (TabOk.cons (e := .fp s_funew) ok_funew (TabOk.cons (e := .pu s_fcnew) ok_fcnew (TabOk.cons (e := .pu s_fpnew) ok_fpnew TabOk.nil))) Tryz.func45 rfl Tryz.results45 Tryz.ntmps45 (by kernel_rfl) (by kernel_rfl) len_fbnew ?_
  intro args H v H1 h hargs hH
  unfold s_fbnew at h
  split at h
  · rename_i n
    refine ⟨by simp only [List.length_cons, List.length_nil]; decide, ?_⟩
    split at h <;> try (simp at h; done)
    rename_i hn
    simp only [Option.some.injEq, Prod.mk.injEq] at h
    obtain ⟨rfl, rfl⟩ := h
    have c1 : ¬ n < 1 := by omega
    have c2 : ¬ 8 < n := by omega
    have l1 := fcC_l (n := n) (i := n.toNat) (by omega)
    have l2 := fpC_l n
    have o1 := fcC_one n n.toNat
    have o2 := fpC_one n
    have t1 : ∀ m : List Sc, List.take 18 (fcC n n.toNat ++ m) = fcC n n.toNat := fun m => List.take_left' l1
    have t3 : ∀ m : List Sc, List.drop 86 (fcC n n.toNat ++ m) = List.drop 68 m := fun m => by rw [List.drop_append, l1, List.drop_of_length_le (by omega), List.nil_append]
    have t2 : List.take 68 (fpC n) = fpC n := List.take_of_length_le (by omega)
    have e1 : s_fcnew [.c (.i n)] = some (.g (fcC n n.toNat)) := s_fcnew_eq.trans (if_pos hn)
    have e2 : s_fpnew [.c (.i n)] = some (.g (fpC n)) := s_fpnew_eq.trans (if_pos hn)
    (try simp (config := { maxSteps := 10000000 }) only [go_sem, seval, s_funew_eq, e1, e2, c1, c2, l1, l2, o1, o2, t1, t2, t3]; repeat (simp (disch := omega) only [w64_d, ipos, ineg, dpos, dneg]; try simp (config := { maxSteps := 10000000 }) only [go_sem, seval, s_funew_eq, e1, e2, c1, c2, l1, l2, o1, o2, t1, t2, t3]))
    exact fin_sameF
  · simp at h
end
end Go.Proofs.YtcbhelkafelofaaGreat
