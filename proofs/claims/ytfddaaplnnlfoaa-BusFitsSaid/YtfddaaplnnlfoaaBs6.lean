/- Layer 18: a bus: new ones, registers that are laid; the chapter's example: contracts. -/
import Derived.Test.YtfddaaplnnlfoaaBs5
namespace Go.Proofs.Ytfddaaplnnlfoaa
open Go.Am
set_option linter.unusedSimpArgs false
set_option linter.unusedVariables false
noncomputable section
variable {H : AH} {D : Bd}

theorem BStep.app {K1 : AH} {b : Bs} {t : Pt} (h : BStep H K1 D b t) (X : AH) : BStep H (K1 ++ X) D b t := by
  obtain ⟨x, y, h1, h2⟩ := h
  exact ⟨x, y, h1.app X, h2.trans BK.app⟩
/-! ### new ones -/
def bN (n : Int) : Bs := ⟨n, ckN n, pkN n⟩
theorem ckN_n {n : Int} (h : 1 ≤ n ∧ n ≤ 8) : (ckN n).n = n := by unfold ckN; rw [if_pos h]; rfl
theorem pkN_n {n : Int} (h : 1 ≤ n ∧ n ≤ 8) : (pkN n).n = n := by unfold pkN; rw [if_pos h]; rfl
theorem bN_ok {n : Int} (h : 1 ≤ n ∧ n ≤ 8) : BsOk (bN n) := ⟨ckN_ok n, pkN_ok n, h.1, h.2, ckN_n h, pkN_n h⟩
def dN (H : AH) (n : Int) : Bd := ⟨H.length + 1, H.length, bN n, pt0, .nils, .nils⟩
def s_bnew (args : List AV) (H : AH) : Option (AV × AH) :=
  match args with
  | [.c (.i n)] => if 1 ≤ n ∧ n ≤ 8 then some (.t [.c (.p (H.length + 1) 0 0), .c (.i 0)], H ++ [.own (poC po0), .own (busC H.length (bN n))]) else some (.t [.c .nilp, .c (.i 1)], H)
  | _ => none
theorem len_bnew (args : List AV) (H : AH) (v : AV) (H1 : AH) (h : s_bnew args H = some (v, H1)) : H.length ≤ H1.length := by
  unfold s_bnew at h
  repeat' split at h
  · simp at h; rw [← h.2]; simp
  · simp at h; rw [← h.2]; exact Nat.le_refl _
  · simp at h
theorem dN_bi (H : AH) {n : Int} (h : 1 ≤ n ∧ n ≤ 8) : BI (H ++ [.own (poC po0), .own (busC H.length (bN n))]) (dN H n) := by
  refine ⟨?_, bN_ok h, ?_⟩
  · show hg _ (H.length + 1) = _
    rw [hg_len_add]; rfl
  · have := pi_app (X := [.own (busC H.length (bN n))]) (pi_new H)
    rw [List.append_assoc] at this
    exact this
theorem s_bnew_ok {n : Int} (h : 1 ≤ n ∧ n ≤ 8) : s_bnew [.c (.i n)] H = some (.t [.c (.p (H.length + 1) 0 0), .c (.i 0)], H ++ [.own (poC po0), .own (busC H.length (bN n))]) := by simp only [s_bnew, if_pos h]
theorem s_bnew_no {n : Int} (h : ¬ (1 ≤ n ∧ n ≤ 8)) : s_bnew [.c (.i n)] H = some (.t [.c .nilp, .c (.i 1)], H) := by simp only [s_bnew, if_neg h]
set_option maxRecDepth 100000 in
set_option maxHeartbeats 2000000 in
theorem ok_bnew : FpOk Try.prog 6 s_bnew := by
  refine fp_ok (s := s_bnew) (tab := [(24, .fp s_unew), (25, .pu s_cnew), (26, .pu s_pnew)]) hmix (TabOk.cons (e := .fp s_unew) ok_unew (TabOk.cons (e := .pu s_cnew) ok_cnew (TabOk.cons (e := .pu s_pnew) ok_pnew TabOk.nil))) Try.func6 rfl Try.results6 Try.ntmps6 (by kernel_rfl) (by kernel_rfl) len_bnew ?_
  intro args H v H1 h hargs hH
  unfold s_bnew at h
  split at h
  · rename_i n
    refine ⟨by simp only [List.length_cons, List.length_nil]; decide, ?_⟩
    split at h
    · rename_i hn
      simp only [Option.some.injEq, Prod.mk.injEq] at h
      obtain ⟨rfl, rfl⟩ := h
      have c1 : ¬ n < 1 := by omega
      have c2 : ¬ 8 < n := by omega
      have l1 := ckC_l (ckN_ok n)
      have l2 := pkC_l (pkN_ok n)
      have o1 := ckC_one (ckN n)
      have o2 := pkC_one (pkN n)
      have t1 : ∀ m : List Sc, List.take 18 (ckC (ckN n) ++ m) = ckC (ckN n) := fun m => List.take_left' l1
      have t3 : ∀ m : List Sc, List.drop 86 (ckC (ckN n) ++ m) = List.drop 68 m := fun m => by rw [List.drop_append, l1, List.drop_of_length_le (by omega), List.nil_append]
      have t2 : List.take 68 (pkC (pkN n)) = pkC (pkN n) := List.take_of_length_le (by omega)
      (try simp (config := { maxSteps := 10000000 }) only [go_sem, seval, un7, s_cnew_eq, s_pnew_eq, c1, c2, l1, l2, o1, o2, t1, t2, t3]; repeat (simp (disch := omega) only [w64_d, ipos, ineg, dpos, dneg]; try simp (config := { maxSteps := 10000000 }) only [go_sem, seval, un7, s_cnew_eq, s_pnew_eq, c1, c2, l1, l2, o1, o2, t1, t2, t3]))
      exact fin_same
    · rename_i hn
      simp only [Option.some.injEq, Prod.mk.injEq] at h
      obtain ⟨rfl, rfl⟩ := h
      by_cases c1 : n < 1
      · (try simp (config := { maxSteps := 10000000 }) only [go_sem, seval, c1]; repeat (simp (disch := omega) only [w64_d, ipos, ineg, dpos, dneg]; try simp (config := { maxSteps := 10000000 }) only [go_sem, seval, c1]))
        exact fin_same
      · have c2 : 8 < n := by omega
        (try simp (config := { maxSteps := 10000000 }) only [go_sem, seval, c1, c2]; repeat (simp (disch := omega) only [w64_d, ipos, ineg, dpos, dneg]; try simp (config := { maxSteps := 10000000 }) only [go_sem, seval, c1, c2]))
        exact fin_same
  · simp at h
end
end Go.Proofs.Ytfddaaplnnlfoaa
