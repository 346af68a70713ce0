/- Layer 32: what must be whatever is asked: contract. -/
import Derived.Test.YtcbhelkafelofaaGreatFlC
namespace Go.Proofs.YtcbhelkafelofaaGreat
open Go.Am
set_option linter.unusedSimpArgs false
set_option linter.unusedVariables false
noncomputable section
set_option maxRecDepth 100000

theorem wdR_of {H : AH} {p id : Nat} {B : List Int} (h : wdV H p = some (id, B)) : wdR H p = some (.sl id 0 B.length B.length, B) := wdV_R h
theorem of_base : ofF 2147483648#64 = 0 := by rw [ofF_eq]; rfl
theorem has_base {N : Nat} {n : Int} (h1 : 1 ≤ n) (h2 : n ≤ (N : Int)) : hasF N 2147483648#64 n = true := by
  rw [hasF_iff, of_base]
  refine ⟨h1, Nat.le_refl _, by omega, by omega⟩
theorem rep_e8 (n : Nat) : List.replicate n (Sc.k .u8 0) = (List.replicate n (0 : Int)).flatMap e8F := by
  induction n with
  | zero => rfl
  | succ n ih => rw [List.replicate_succ, ih, List.replicate_succ, List.flatMap_cons]; rfl
section
variable {H : AH}
/-- a new world -/
theorem nwF_at (h t n b : Int) (X : AH) : hg (H ++ (nwF H.length h t n b ++ X)) (H.length + 4) = .own (wdC h t n b (.sl (H.length + 3) 0 (64 * n.toNat) (64 * n.toNat)) rvZ (.p (H.length + 2) 0 0) (mlC h Z8)) ∧ hg (H ++ (nwF H.length h t n b ++ X)) (H.length + 3) = .vec 1 ((List.replicate (64 * n.toNat) (0 : Int)).flatMap e8F) := by
  constructor
  · rw [hg_len_add]; rfl
  · rw [hg_len_add, ← rep_e8]; rfl
theorem nwF_V (h t n b : Int) (X : AH) : wdV (H ++ (nwF H.length h t n b ++ X)) (H.length + 4) = some (H.length + 3, List.replicate (64 * n.toNat) 0) := by
  obtain ⟨h1, h2⟩ := nwF_at (H := H) h t n b X
  exact wdV_of (B := List.replicate (64 * n.toNat) 0) (by rw [List.length_replicate]; exact h1) h2
end
def B0 : List Int := List.replicate 64 0
def B1 : List Int := layB B0 0 [5]
def s_flive (args : List AV) : Option AV :=
  match args with
  | [] => some (.c (.b true))
  | _ => none
theorem s_flive_eq : s_flive [] = some (.c (.b true)) := rfl
set_option maxRecDepth 100000 in
set_option maxHeartbeats 2000000 in
theorem ok_flive : PuOk Tryz.prog 16 s_flive := by
  refine pu_ok (tab := [(17, .fp s_fnew), (7, .fq s_freplay), (9, .fp s_flay)]) hmix (TabOk.cons (e := .fp s_fnew) ok_fnew (TabOk.cons (e := .fq s_freplay) ok_freplay (TabOk.cons (e := .fp s_flay) ok_flay TabOk.nil))) Tryz.func16 rfl Tryz.results16 Tryz.ntmps16 (by kernel_rfl) (by kernel_rfl) ?_
  intro args v h
  unfold s_flive at h
  split at h
  · simp only [Option.some.injEq] at h; subst h
    refine ⟨by simp only [List.length_cons, List.length_nil]; decide, rfl, rfl, ?_⟩
    obtain ⟨K5, hK5⟩ : ∃ K5 : AH, K5 = nwF 0 1 1 1 1 := ⟨_, rfl⟩
    have l5 : K5.length = 5 := by rw [hK5]; rfl
    have n1 : s_fnew [.g [.i 1, .i 1, .i 1, .i 1]] [] = some (.t [.c (.p 4 0 0), .c (.i 0)], K5) := by
      simp only [s_fnew]
      rw [if_pos (by decide), hK5]
      rfl
    have v5 : ∀ X, wdV (K5 ++ X) 4 = some (3, B0) := fun X => by
      have := nwF_V (H := []) 1 1 1 1 X
      rw [List.nil_append, List.length_nil, ← hK5] at this
      exact this
    have h5 : ∀ X, hg (K5 ++ X) 4 = .own (.i 1 :: .i 1 :: .i 1 :: .i 1 :: .sl 3 0 64 64 :: (rvZ ++ .p 2 0 0 :: mlC 1 Z8)) := fun X => by
      have := (nwF_at (H := []) 1 1 1 1 X).1
      rw [List.nil_append, List.length_nil, ← hK5] at this
      exact this
    have r1 : ∀ X, s_freplay [.c (.p 4 0 0), .c (.sl 5 0 65 1)] (K5 ++ (.vec 65 (evC 5#64) :: X)) = some (.t [.c (.i 0), .c (.b false)]) := fun X => by
      have := s_freplay_eq (e := 5) (wdR_of (v5 (.vec 65 (evC 5#64) :: X))) (h5 _) (by decide) (has_base (by decide) (by decide)) (by decide) (by rw [← l5, hg_len]; rfl)
      rw [this]
      have e : ld8 B0 2147483648#64 = 0#64 := by unfold ld8; rw [of_base]; rfl
      rw [e]; rfl
    obtain ⟨K8, hK8⟩ : ∃ K8 : AH, K8 = (K5 ++ [AObj.vec 65 (evC 5#64), AObj.vec 1 [.k .u8 5]]).set 3 (.vec 1 (B1.flatMap e8F)) := ⟨_, rfl⟩
    have f1 : s_flay [.c (.p 4 0 0), .c (.u 2147483648#64), .c (.sl 6 0 1 1)] (K5 ++ [AObj.vec 65 (evC 5#64), AObj.vec 1 [.k .u8 5]]) = some (.c (.b true), K8) := by
      have h6 : hg (K5 ++ [AObj.vec 65 (evC 5#64), AObj.vec 1 [.k .u8 5]]) 6 = .vec 1 (([5] : List Int).flatMap e8F) := by
        have := hg_len_add (H := K5) (X := [AObj.vec 65 (evC 5#64), AObj.vec 1 [.k .u8 5]]) (n := 1)
        rw [l5] at this
        rw [this]; rfl
      have fe := s_flay_eq (a := 2147483648#64) (v5 _) (cutF_vec h6) (by decide) (by decide)
      simp only [List.length_cons, List.length_nil, Nat.zero_add] at fe
      rw [fe, if_neg (by decide), if_pos (has_base (by decide) (by decide)), of_base, hK8]; rfl
    have k8 : ∀ i, i ≠ 3 → hg K8 i = hg (K5 ++ [AObj.vec 65 (evC 5#64), AObj.vec 1 [.k .u8 5]]) i := fun i hi => by rw [hK8, hg_set_ne' (fun c => hi c.symm)]
    have r2 : s_freplay [.c (.p 4 0 0), .c (.sl 5 0 65 1)] K8 = some (.t [.c (.i 0), .c (.b true)]) := by
      have h4 : hg K8 4 = .own (.i 1 :: .i 1 :: .i 1 :: .i 1 :: .sl 3 0 64 64 :: (rvZ ++ .p 2 0 0 :: mlC 1 Z8)) := by rw [k8 4 (by decide), h5]
      have h3 : hg K8 3 = .vec 1 (B1.flatMap e8F) := by rw [hK8, hg_set_same (by simp; omega)]
      have v8 : wdV K8 4 = some (3, B1) := wdV_of h4 h3
      have := s_freplay_eq (e := 5) (wdR_of v8) h4 (by decide) (has_base (by decide) (by decide)) (by decide) (by rw [k8 5 (by decide), ← l5, hg_len]; rfl)
      rw [this]
      have e : ld8 B1 2147483648#64 = 5#64 := by unfold ld8; rw [of_base]; rfl
      rw [e]; rfl
    simp only [evC, lqC, rLq, ansF, rowC_0, List.cons_append, List.nil_append] at r1 f1
    (try simp (config := { maxSteps := 10000000 }) only [go_sem, seval, n1, l5, r1, f1, r2]; repeat (simp (disch := omega) only [w64_d, ipos, ineg, dpos, dneg]; try simp (config := { maxSteps := 10000000 }) only [go_sem, seval, n1, l5, r1, f1, r2]))
  · simp at h
end
end Go.Proofs.YtcbhelkafelofaaGreat
