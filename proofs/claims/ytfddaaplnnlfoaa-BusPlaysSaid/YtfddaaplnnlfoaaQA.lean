/- The controller of a bus: what is read: contracts. -/
import Derived.Test.YtfddaaplnnlfoaaQ9
namespace Go.Proofs.Ytfddaaplnnlfoaa
open Go.Am
set_option linter.unusedSimpArgs false
set_option linter.unusedVariables false
noncomputable section

theorem plAt_k (n : Int) (off : BitVec 64) (sz : Int) : (plAt n off sz).k = 0 ∨ (plAt n off sz).k = 1 ∨ (plAt n off sz).k = 2 ∨ (plAt n off sz).k = 3 ∨ (plAt n off sz).k = 4 ∨ (plAt n off sz).k = 5 := by
  unfold plAt
  repeat' split
  all_goals simp
def plBst (c : Pk) (i : Nat) : Nat := bstN c.p (c.q &&& c.e.getD i 0#32) 0 31
def plV (c : Pk) (a : Pa) : BitVec 64 :=
  if a.k = 1 then BitVec.ofInt 64 (c.p.getD a.i 0) else if a.k = 2 then BitVec.ofInt 64 (c.q.toNat : Int) else if a.k = 3 then BitVec.ofInt 64 ((c.e.getD a.i 0#32).toNat : Int)
  else if a.k = 4 then BitVec.ofInt 64 (c.l.getD a.i 0) else if a.k = 5 then BitVec.ofInt 64 (plBst c a.i : Int) else 0#64
def plR (c : Pk) (a : Pa) : Pk := if a.k = 5 ∧ 0 < plBst c a.i then { c with q := c.q &&& ~~~(bitK (plBst c a.i)), s := c.s ||| bitK (plBst c a.i) } else c
theorem plR_ok {c : Pk} (h : PkOk c) (a : Pa) : PkOk (plR c a) := by
  unfold plR
  split
  · exact h.setW _ _ _
  · exact h
noncomputable def s_pread (args : List AV) (H : AH) : Option (AV × AH) :=
  match args with
  | [.c x, .c (.u off), .c (.i sz)] => (pkQ H x).map fun c => (.t [.c (.u (plV c (plAt c.n off sz))), .c (.b (!decide ((plAt c.n off sz).k = 0)))], pkS H x (plR c (plAt c.n off sz)))
  | _ => none
theorem s_pread_eq {H : AH} {x : Sc} {c : Pk} (h : pkQ H x = some c) {off : BitVec 64} {sz : Int} : s_pread [.c x, .c (.u off), .c (.i sz)] H = some (.t [.c (.u (plV c (plAt c.n off sz))), .c (.b (!decide ((plAt c.n off sz).k = 0)))], pkS H x (plR c (plAt c.n off sz))) := by simp only [s_pread, h, Option.map_some]
theorem len_pread (args : List AV) (H : AH) (v : AV) (H1 : AH) (h : s_pread args H = some (v, H1)) : H.length ≤ H1.length := by
  unfold s_pread at h
  split at h
  · rw [Option.map_eq_some_iff] at h
    obtain ⟨c, _, h⟩ := h
    simp only [Prod.mk.injEq] at h
    rw [← h.2, pkS, setAt_len]; exact Nat.le_refl _
  · simp at h
set_option maxRecDepth 100000 in
set_option maxHeartbeats 2000000 in
theorem ok_pread : FpOk Try.prog 59 s_pread := by
  refine fp_ok (s := s_pread) (tab := [(84, .fq s_pfind), (71, .fq s_pbest), (68, .pu s_pbit)]) hmix (TabOk.cons (e := .fq s_pfind) ok_pfind (TabOk.cons (e := .fq s_pbest) ok_pbest (TabOk.cons (e := .pu s_pbit) ok_pbit TabOk.nil))) Try.func59 rfl Try.results59 Try.ntmps59 (by kernel_rfl) (by kernel_rfl) len_pread ?_
  intro args H v H1 h hargs hH
  unfold s_pread at h
  split at h
  · rename_i x off sz
    rw [Option.map_eq_some_iff] at h
    obtain ⟨c, hc, h⟩ := h
    simp only [Prod.mk.injEq] at h
    obtain ⟨rfl, rfl⟩ := h
    obtain ⟨id, o, cs, F, rfl, ck⟩ := pkQ_is hc
    have lid := ck.lid
    have ho := ck.ho
    have q := ck.q
    have f0 := s_pfind_eq hc (off := off) (sz := sz)
    have hi := plAt_i ck.ok.n0 ck.ok.n1 off sz
    have hk := plAt_k c.n off sz
    have hb := fun d => ck.bel d hH
    refine ⟨by simp only [List.length_cons, List.length_nil]; decide, ?_⟩
    rw [ck.set]
    generalize plAt c.n off sz = a at *
    obtain ⟨ak, ai⟩ := a
    simp only at hi hk f0
    have no : ak ≠ 5 → plR c ⟨ak, ai⟩ = c := fun h => if_neg fun c => h c.1
    have sf : F c = cs := ck.self
    have hs : H.set id (.own cs) = H := by rw [← ho, set_self rfl lid]
    have dq : cs.getD (o + 34) .any = .k .u32 (c.q.toNat : Int) := ck.dq
    rcases hk with rfl | rfl | rfl | rfl | rfl | rfl
    · rw [no (by decide), sf, hs]
      (try simp (config := { maxSteps := 10000000 }) only [go_sem, seval, s_pfind_eq, s_pbest_eq, s_pbit_eq, f0, plV]; repeat (simp (disch := omega) only [w64_d, ipos, ineg, dpos, dneg]; try simp (config := { maxSteps := 10000000 }) only [go_sem, seval, s_pfind_eq, s_pbest_eq, s_pbit_eq, f0, plV]))
      exact fin_fp rfl (subH_refl _) hH (Nat.le_refl _)
    · have dp : cs.getD (o + 1 + ai) .any = .k .u8 (c.p.getD ai 0) := ck.dp ai hi.1
      rw [no (by decide), sf, hs]
      (try simp (config := { maxSteps := 10000000 }) only [go_sem, seval, s_pfind_eq, s_pbest_eq, s_pbit_eq, f0, plV, ho, dp, Int.toNat_natCast]; repeat (simp (disch := omega) only [w64_d, ipos, ineg, dpos, dneg]; try simp (config := { maxSteps := 10000000 }) only [go_sem, seval, s_pfind_eq, s_pbest_eq, s_pbit_eq, f0, plV, ho, dp, Int.toNat_natCast]))
      exact fin_fp rfl (subH_refl _) hH (Nat.le_refl _)
    · rw [no (by decide), sf, hs]
      (try simp (config := { maxSteps := 10000000 }) only [go_sem, seval, s_pfind_eq, s_pbest_eq, s_pbit_eq, f0, plV, ho, dq]; repeat (simp (disch := omega) only [w64_d, ipos, ineg, dpos, dneg]; try simp (config := { maxSteps := 10000000 }) only [go_sem, seval, s_pfind_eq, s_pbest_eq, s_pbit_eq, f0, plV, ho, dq]))
      exact fin_fp rfl (subH_refl _) hH (Nat.le_refl _)
    · have i16 := hi.2 (by decide)
      have de : cs.getD (o + 36 + ai) .any = .k .u32 ((c.e.getD ai 0#32).toNat : Int) := ck.de ai i16
      rw [no (by decide), sf, hs]
      (try simp (config := { maxSteps := 10000000 }) only [go_sem, seval, s_pfind_eq, s_pbest_eq, s_pbit_eq, f0, plV, ho, de, Int.toNat_natCast]; repeat (simp (disch := omega) only [w64_d, ipos, ineg, dpos, dneg]; try simp (config := { maxSteps := 10000000 }) only [go_sem, seval, s_pfind_eq, s_pbest_eq, s_pbit_eq, f0, plV, ho, de, Int.toNat_natCast]))
      exact fin_fp rfl (subH_refl _) hH (Nat.le_refl _)
    · have i16 := hi.2 (by decide)
      have dl : cs.getD (o + 52 + ai) .any = .k .u8 (c.l.getD ai 0) := ck.dl ai i16
      rw [no (by decide), sf, hs]
      (try simp (config := { maxSteps := 10000000 }) only [go_sem, seval, s_pfind_eq, s_pbest_eq, s_pbit_eq, f0, plV, ho, dl, Int.toNat_natCast]; repeat (simp (disch := omega) only [w64_d, ipos, ineg, dpos, dneg]; try simp (config := { maxSteps := 10000000 }) only [go_sem, seval, s_pfind_eq, s_pbest_eq, s_pbit_eq, f0, plV, ho, dl, Int.toNat_natCast]))
      exact fin_fp rfl (subH_refl _) hH (Nat.le_refl _)
    · have i16 := hi.2 (by decide)
      have de : cs.getD (o + 36 + ai) .any = .k .u32 ((c.e.getD ai 0#32).toNat : Int) := ck.de ai i16
      have pb := fun am ab => s_pbest_eq hc (am := am) (ab := ab)
      have b31 : plBst c ai ≤ 31 := bstN_le 31
      have eB : bstN c.p (c.q &&& c.e.getD ai 0#32) 0 31 = plBst c ai := rfl
      have eb : s_pbit [.c (.i (plBst c ai : Int))] = some (.c (.k .u32 ((bitK (plBst c ai)).toNat : Int))) := by
        simp only [s_pbit]
        rw [if_pos (by omega), Int.toNat_natCast]; rfl
      have ds : ∀ v : BitVec 32, (F { c with q := v }).getD (o + 35) .any = .k .u32 (c.s.toNat : Int) := fun v => ((ck.next (d := { c with q := v }) (ck.ok.setW _ _ _)).ds)
      have wq : ∀ v : BitVec 32, List.take (o + 34) cs ++ .k .u32 (v.toNat : Int) :: List.drop (o + 34 + 1) cs = F { c with q := v } := fun v => wr_tp (ck.wq v)
      have ws : ∀ v w : BitVec 32, List.take (o + 35) (F { c with q := v }) ++ .k .u32 (w.toNat : Int) :: List.drop (o + 35 + 1) (F { c with q := v }) = F { c with q := v, s := w } := fun v w => wr_tp ((ck.next (d := { c with q := v }) (ck.ok.setW _ _ _)).ws w)
      have fl : ∀ v : BitVec 32, o + 68 ≤ (F { c with q := v }).length := fun v => (ck.next (d := { c with q := v }) (ck.ok.setW _ _ _)).q
      generalize hB : plBst c ai = B at *
      rcases Nat.eq_zero_or_pos B with z | z
      · subst z
        have e : plR c ⟨5, ai⟩ = c := if_neg fun h => by have := h.2; rw [hB] at this; exact absurd this (by decide)
        rw [e, sf, hs]
        (try simp (config := { maxSteps := 10000000 }) only [go_sem, seval, s_pfind_eq, s_pbest_eq, s_pbit_eq, f0, plV, hB, ho, dq, de, pb, eB, Int.toNat_natCast]; repeat (simp (disch := omega) only [w64_d, ipos, ineg, dpos, dneg]; try simp (config := { maxSteps := 10000000 }) only [go_sem, seval, s_pfind_eq, s_pbest_eq, s_pbit_eq, f0, plV, hB, ho, dq, de, pb, eB, Int.toNat_natCast]))
        exact fin_fp rfl (subH_refl _) hH (Nat.le_refl _)
      · have e : plR c ⟨5, ai⟩ = { c with q := c.q &&& ~~~(bitK B), s := c.s ||| bitK B } := by unfold plR; simp only [hB]; rw [if_pos ⟨trivial, z⟩]
        have e0 : (0 : Int) < (B : Int) := by omega
        have hgs : ∀ y, hg (H.set id y) id = y := fun y => hg_set_same lid
        have fl1 := fl (c.q &&& ~~~(bitK B))
        have fl2 : o + 35 + 1 ≤ (F { c with q := c.q &&& ~~~(bitK B) }).length := by omega
        rw [e]
        (try simp (config := { maxSteps := 10000000 }) only [go_sem, seval, s_pfind_eq, s_pbest_eq, s_pbit_eq, f0, plV, hB, ho, dq, de, pb, eB, eb, e0, wq, ws, ds, hgs, fl2, Int.toNat_natCast]; repeat (simp (disch := omega) only [w64_d, ipos, ineg, dpos, dneg]; try simp (config := { maxSteps := 10000000 }) only [go_sem, seval, s_pfind_eq, s_pbest_eq, s_pbit_eq, f0, plV, hB, ho, dq, de, pb, eB, eb, e0, wq, ws, ds, hgs, fl2, Int.toNat_natCast]))
        (repeat' first | apply And.intro | (intro c; exact absurd c (by omega)) | (intro _; kernel_rfl) | kernel_rfl)
        exact fin_fp rfl (subH_refl _) (hb _) (by simp)
  · simp at h
end
end Go.Proofs.Ytfddaaplnnlfoaa
