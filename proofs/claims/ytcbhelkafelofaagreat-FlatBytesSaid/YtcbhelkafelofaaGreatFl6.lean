/- Layer 32: worlds that are made: contracts. -/
import Derived.Test.YtcbhelkafelofaaGreatFl5
import Derived.Test.YtcbhelkafelofaaGreatMa2
namespace Go.Proofs.YtcbhelkafelofaaGreat
open Go.Am
set_option linter.unusedSimpArgs false
set_option linter.unusedVariables false
noncomputable section
set_option maxRecDepth 100000

def rvZ : List Sc := [.b false, .u 0#64, .b false, .u 0#64, .b false, .u 0#64, .b false, .u 0#64, .b false, .u 0#64, .b false, .u 0#64, .b false, .u 0#64, .b false, .u 0#64]
def wdC (h t n b : Int) (x : Sc) (R : List Sc) (bus : Sc) (m : List Sc) : List Sc := .i h :: .i t :: .i n :: .i b :: x :: (R ++ bus :: m)
theorem zWld : zT Tryz.prog 89 = some (wdC 0 0 0 0 .nils rvZ .nilp (mlC 0 Z8)) := by kernel_rfl
section
variable {H : AH}
/-- a new world's objects -/
def nwF (k : Nat) (h t n b : Int) : AH := [.own [.i h, .i t, .i n, .i b], .own foC, .own (fbC (k + 1) h), .vec 1 (List.replicate (64 * n.toNat) (.k .u8 0)), .own (wdC h t n b (.sl (k + 3) 0 (64 * n.toNat) (64 * n.toNat)) rvZ (.p (k + 2) 0 0) (mlC h Z8))]
def s_fnew (args : List AV) (H : AH) : Option (AV × AH) :=
  match args with
  | [.g [.i h, .i t, .i n, .i b]] => if rightF h t n b = true then some (.t [.c (.p (H.length + 4) 0 0), .c (.i 0)], H ++ nwF H.length h t n b) else some (.t [.c .nilp, .c (.i 1)], H ++ [.own [.i h, .i t, .i n, .i b]])
  | _ => none
theorem len_fnew (args : List AV) (H : AH) (v : AV) (H1 : AH) (h : s_fnew args H = some (v, H1)) : H.length ≤ H1.length := by
  unfold s_fnew at h
  repeat' split at h
  all_goals simp at h
  all_goals rw [← h.2]
  all_goals simp
set_option maxRecDepth 100000 in
set_option maxHeartbeats 2000000 in
theorem ok_fnew : FpOk Tryz.prog 17 s_fnew := by
  refine fp_ok (s := s_fnew) (tab := [(44, .pu s_fsright), (45, .fp s_fbnew), (46, .pu s_mnew)]) hmix (TabOk.cons (e := .pu s_fsright) ok_fsright (TabOk.cons (e := .fp s_fbnew) ok_fbnew (TabOk.cons (e := .pu s_mnew) ok_mnew TabOk.nil))) Tryz.func17 rfl Tryz.results17 Tryz.ntmps17 (by kernel_rfl) (by kernel_rfl) len_fnew ?_
  intro args H v H1 h hargs hH
  unfold s_fnew at h
  split at h <;> try (simp at h; done)
  rename_i h0 t n b
  refine ⟨by simp only [List.length_cons, List.length_nil]; decide, ?_⟩
  cases hr : rightF h0 t n b with
  | false =>
    simp only [hr, Bool.false_eq_true, if_false, Option.some.injEq, Prod.mk.injEq] at h
    obtain ⟨rfl, rfl⟩ := h
    (try simp (config := { maxSteps := 10000000 }) only [go_sem, seval, s_fsright_eq, s_fbnew_eq, s_mnew_eq, hr]; repeat (simp (disch := omega) only [w64_d, ipos, ineg, dpos, dneg]; try simp (config := { maxSteps := 10000000 }) only [go_sem, seval, s_fsright_eq, s_fbnew_eq, s_mnew_eq, hr]))
    exact fin_sameF
  | true =>
    simp only [hr, if_true, Option.some.injEq, Prod.mk.injEq] at h
    obtain ⟨rfl, rfl⟩ := h
    have hr2 := hr
    simp only [rightF, wiF, Bool.and_eq_true, decide_eq_true_eq] at hr2
    obtain ⟨⟨a1, a2⟩, ⟨b1, b2⟩, ⟨c1, c2⟩, d1, d2⟩ := hr2
    obtain ⟨m, rfl⟩ : ∃ m : Nat, n = (m : Int) := ⟨n.toNat, by omega⟩
    have e1 : w64 ((m : Int) * 64) = ((64 * m : Nat) : Int) := by rw [w64_d (by omega) (by omega)]; omega
    have e2 : ((64 * m : Nat) : Int) ≤ 1048576 := by omega
    have e3 : (0 : Int) ≤ ((64 * m : Nat) : Int) := by omega
    have bn := fun K => s_fbnew_eq (H := K) (n := h0) ⟨a1, a2⟩
    have mn := s_mnew_eq (n := h0)
    rw [if_pos ⟨a1, a2⟩] at mn
    have l0 := fun k => mlC_len k Z8_len
    have rep : (List.replicate (64 * m) [Sc.k .u8 0]).flatten = List.replicate (64 * m) (Sc.k .u8 0) := by
      generalize 64 * m = q
      induction q with
      | zero => rfl
      | succ q ih => rw [List.replicate_succ, List.flatten_cons, ih, List.replicate_succ]; rfl
    obtain ⟨T, hT⟩ : ∃ T : List Sc, T = rvZ ++ .nilp :: mlC 0 Z8 := ⟨_, rfl⟩
    have zW := zWld
    unfold wdC at zW
    rw [← hT] at zW
    have r16 : rvZ.length = 16 := rfl
    have t1 : List.take 16 T = rvZ := by rw [hT]; exact List.take_left' r16
    have t2 : List.drop 17 T = mlC 0 Z8 := by rw [hT]; rfl
    have t3 : T.length = 338 := by rw [hT, List.length_append, List.length_cons, l0]; rfl
    have t4 : ∀ p, List.take 17 (rvZ ++ p :: mlC 0 Z8) = rvZ ++ [p] := fun p => rfl
    have t5 : ∀ p, List.drop 338 (rvZ ++ p :: mlC 0 Z8) = [] := fun p => List.drop_of_length_le (by rw [List.length_append, List.length_cons, l0]; exact Nat.le_refl _)
    have o1 : rvZ.all Sc.one = true := rfl
    have o2 : (mlC h0 Z8).all Sc.one = true := rfl
    have l1 : (mlC h0 Z8).length = 321 := l0 h0
    have l2 : (mlC 0 Z8).length = 321 := l0 0
    unfold nwF wdC
    generalize mlC h0 Z8 = M at *
    (try simp (config := { maxSteps := 10000000 }) only [go_sem, seval, s_fsright_eq, s_fbnew_eq, s_mnew_eq, hr, bn, mn, e1, e2, e3, zW, rep, r16, t1, t2, t3, t4, t5, l1, l2, o1, o2, Int.toNat_natCast]; repeat (simp (disch := omega) only [w64_d, ipos, ineg, dpos, dneg]; try simp (config := { maxSteps := 10000000 }) only [go_sem, seval, s_fsright_eq, s_fbnew_eq, s_mnew_eq, hr, bn, mn, e1, e2, e3, zW, rep, r16, t1, t2, t3, t4, t5, l1, l2, o1, o2, Int.toNat_natCast]))
    exact fin_sameF
end
end
end Go.Proofs.YtcbhelkafelofaaGreat
