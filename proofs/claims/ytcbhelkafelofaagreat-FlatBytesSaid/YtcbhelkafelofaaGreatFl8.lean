/- Layer 32: bytes that are laid and compared: contracts. -/
import Derived.Test.YtcbhelkafelofaaGreatFl7
namespace Go.Proofs.YtcbhelkafelofaaGreat
open Go.Am
set_option linter.unusedSimpArgs false
set_option linter.unusedVariables false
noncomputable section
set_option maxRecDepth 100000

section
variable {H : AH}
noncomputable def s_flay (args : List AV) (H : AH) : Option (AV × AH) :=
  match args with
  | [.c .nilp, .c (.u _), .c _] => some (.c (.b false), H)
  | [.c (.p p 0 0), .c (.u a), .c y] =>
    match wdV H p, cutF H y with
    | some (id, B), some b =>
      if B.length ≤ 262144 ∧ b.length ≤ 262144 then
        if b = [] then some (.c (.b true), H)
        else if hasF B.length a b.length = true then some (.c (.b true), H.set id (.vec 1 ((layB B (ofF a) b).flatMap e8F)))
        else some (.c (.b false), H)
      else none
    | _, _ => none
  | _ => none
theorem s_flay_nil {a : BitVec 64} {y : Sc} : s_flay [.c .nilp, .c (.u a), .c y] H = some (.c (.b false), H) := rfl
theorem s_flay_eq {p id : Nat} {a : BitVec 64} {y : Sc} {B b : List Int} (h : wdV H p = some (id, B)) (h2 : cutF H y = some b) (hB : B.length ≤ 262144) (hb : b.length ≤ 262144) : s_flay [.c (.p p 0 0), .c (.u a), .c y] H = if b = [] then some (.c (.b true), H)
        else if hasF B.length a b.length = true then some (.c (.b true), H.set id (.vec 1 ((layB B (ofF a) b).flatMap e8F)))
        else some (.c (.b false), H) := by
  simp only [s_flay, h, h2]; rw [if_pos ⟨hB, hb⟩]
theorem len_flay (args : List AV) (H : AH) (v : AV) (H1 : AH) (h : s_flay args H = some (v, H1)) : H.length ≤ H1.length := by
  unfold s_flay at h
  repeat' split at h
  all_goals simp at h
  all_goals rw [← h.2]
  all_goals simp
set_option maxRecDepth 100000 in
set_option maxHeartbeats 2000000 in
theorem ok_flay : FpOk Tryz.prog 9 s_flay := by
  refine fp_ok (s := s_flay) (tab := [(29, .fq s_fspot)]) hmix (TabOk.cons (e := .fq s_fspot) ok_fspot TabOk.nil) Tryz.func9 rfl Tryz.results9 Tryz.ntmps9 (by kernel_rfl) (by kernel_rfl) len_flay ?_
  intro args H v H1 h hargs hH
  unfold s_flay at h
  split at h
  · simp only [Option.some.injEq, Prod.mk.injEq] at h
    obtain ⟨rfl, rfl⟩ := h
    refine ⟨by simp only [List.length_cons, List.length_nil]; decide, ?_⟩
    (try simp (config := { maxSteps := 10000000 }) only [go_sem, seval]; repeat (simp (disch := omega) only [w64_d, ipos, ineg, dpos, dneg]; try simp (config := { maxSteps := 10000000 }) only [go_sem, seval]))
    exact fin_sameF
  · rename_i p a y
    split at h <;> try (simp at h; done)
    rename_i id B b hw hy
    split at h <;> try (simp at h; done)
    rename_i hn
    obtain ⟨n1, n2⟩ := hn
    refine ⟨by simp only [List.length_cons, List.length_nil]; decide, ?_⟩
    obtain ⟨⟨c1, c2, c3, c4, r, h1⟩, h2⟩ := wdV_inv hw
    have yl := cutF_len hy
    have ys := cutF_isS hy
    split at h
    · rename_i hb
      subst hb
      simp only [Option.some.injEq, Prod.mk.injEq] at h
      obtain ⟨rfl, rfl⟩ := h
      simp only [List.length_nil] at yl
      (try simp (config := { maxSteps := 10000000 }) only [go_sem, seval, yl, ys, as_len_y]; repeat (simp (disch := omega) only [w64_d, ipos, ineg, dpos, dneg]; try simp (config := { maxSteps := 10000000 }) only [go_sem, seval, yl, ys, as_len_y]))
      exact fin_sameF
    rename_i hb
    have bl : 0 < b.length := List.length_pos_iff.2 hb
    have bz : ¬ ((b.length : Int) = 0) := by omega
    have sp := s_fspot_eq (wdV_R hw) n1 (show ((b.length : Nat) : Int) ≤ 9223372036854775807 by omega) (a := a)
    split at h
    · rename_i hh
      simp only [Option.some.injEq, Prod.mk.injEq] at h
      obtain ⟨rfl, rfl⟩ := h
      rw [if_pos hh] at sp
      rw [hasF_iff] at hh
      have k0 : (0 : Int) ≤ (ofF a : Int) := by omega
      have k1 : (ofF a : Int) ≤ (B.length : Int) := by omega
      have k1' : (ofF a : Int) < (B.length : Int) := by omega
      have k2 : b.length ≤ B.length - ofF a := by omega
      have k3 : ¬ b.length = 0 := by omega
      have k4 : ofF a + b.length ≤ B.length := by omega
      have o1 := e8_one b
      have l1 := e8_len b
      have l2 := e8_len B
      have w1 := wr_e8 B b (ofF a)
      rcases cutF_inv hy with ⟨rfl, rfl⟩ | ⟨j, o, rfl, g1, g2⟩
      · simp at hb
      (try simp (config := { maxSteps := 10000000 }) only [go_sem, seval, yl, ys, as_len_y, bz, sp, h1, h2, k0, k1, k1', k2, k3, k4, o1, l1, l2, g1, g2, w1, Int.toNat_natCast]; repeat (simp (disch := omega) only [w64_d, ipos, ineg, dpos, dneg]; try simp (config := { maxSteps := 10000000 }) only [go_sem, seval, yl, ys, as_len_y, bz, sp, h1, h2, k0, k1, k1', k2, k3, k4, o1, l1, l2, g1, g2, w1, Int.toNat_natCast]))
      exact fin_sameF
    · rename_i hh
      simp only [Option.some.injEq, Prod.mk.injEq] at h
      obtain ⟨rfl, rfl⟩ := h
      rw [if_neg hh] at sp
      (try simp (config := { maxSteps := 10000000 }) only [go_sem, seval, yl, ys, as_len_y, bz, sp]; repeat (simp (disch := omega) only [w64_d, ipos, ineg, dpos, dneg]; try simp (config := { maxSteps := 10000000 }) only [go_sem, seval, yl, ys, as_len_y, bz, sp]))
      exact fin_sameF
  · simp at h
end
end
end Go.Proofs.YtcbhelkafelofaaGreat
