/- The controller of a bus: wires and lines: contracts. -/
import Derived.Test.YtfddaaplnnlfoaaQ7
namespace Go.Proofs.Ytfddaaplnnlfoaa
open Go.Am
set_option linter.unusedSimpArgs false
set_option linter.unusedVariables false
noncomputable section

theorem wr_tp {cs m : List Sc} {k : Nat} {x : Sc} (h : wr cs k [x] = m) : List.take k cs ++ x :: List.drop (k + 1) cs = m := by rw [← h, wr_un]; simp
def setl (c : Pk) : Pk := { c with q := c.q ||| c.w &&& ~~~c.s }
theorem setl_ok {c : Pk} (h : PkOk c) : PkOk (setl c) := h.setW _ _ _
noncomputable def s_psettle (args : List AV) (H : AH) : Option (AV × AH) :=
  match args with
  | [.c x] => (pkQ H x).map fun c => (.t [], pkS H x (setl c))
  | _ => none
theorem s_psettle_eq {H : AH} {x : Sc} {c : Pk} (h : pkQ H x = some c) : s_psettle [.c x] H = some (.t [], pkS H x (setl c)) := by simp only [s_psettle, h, Option.map_some]
theorem len_psettle (args : List AV) (H : AH) (v : AV) (H1 : AH) (h : s_psettle args H = some (v, H1)) : H.length ≤ H1.length := by
  unfold s_psettle at h
  split at h
  · rw [Option.map_eq_some_iff] at h
    obtain ⟨c, _, h⟩ := h
    simp only [Prod.mk.injEq] at h
    rw [← h.2, pkS, setAt_len]; exact Nat.le_refl _
  · simp at h
set_option maxRecDepth 100000 in
set_option maxHeartbeats 2000000 in
theorem ok_psettle : FpOk Try.prog 69 s_psettle := by
  refine fp_ok (s := s_psettle) (tab := []) hmix TabOk.nil Try.func69 rfl Try.results69 Try.ntmps69 (by kernel_rfl) (by kernel_rfl) len_psettle ?_
  intro args H v H1 h hargs hH
  unfold s_psettle at h
  split at h
  · rename_i x
    rw [Option.map_eq_some_iff] at h
    obtain ⟨c, hc, h⟩ := h
    simp only [Prod.mk.injEq] at h
    obtain ⟨rfl, rfl⟩ := h
    obtain ⟨id, o, cs, F, rfl, ck⟩ := pkQ_is hc
    have lid := ck.lid
    have ho := ck.ho
    have q := ck.q
    have dw : cs.getD (o + 33) .any = .k .u32 (c.w.toNat : Int) := ck.dw
    have dq : cs.getD (o + 34) .any = .k .u32 (c.q.toNat : Int) := ck.dq
    have ds : cs.getD (o + 35) .any = .k .u32 (c.s.toNat : Int) := ck.ds
    have wq : ∀ v : BitVec 32, List.take (o + 34) cs ++ .k .u32 (v.toNat : Int) :: List.drop (o + 34 + 1) cs = F { c with q := v } := fun v => wr_tp (ck.wq v)
    have hb := fun d => ck.bel d hH
    refine ⟨by simp only [List.length_cons, List.length_nil]; decide, ?_⟩
    rw [ck.set]
    (try simp (config := { maxSteps := 10000000 }) only [go_sem, seval, ho, dw, dq, ds, wq]; repeat (simp (disch := omega) only [w64_d, ipos, ineg, dpos, dneg]; try simp (config := { maxSteps := 10000000 }) only [go_sem, seval, ho, dw, dq, ds, wq]))
    (repeat' first | apply And.intro | (intro c; exact absurd c (by omega)) | (intro _; kernel_rfl) | kernel_rfl)
    exact fin_fp rfl (subH_refl _) (hb (setl c)) (by simp)
  · simp at h
def plWire (c : Pk) (s : Int) (on : Bool) : Pk :=
  if c.n = 0 ∨ s < 1 ∨ 32 ≤ s then c else if on = true then setl { c with w := c.w ||| bitK s.toNat } else setl { c with w := c.w &&& ~~~(bitK s.toNat) }
def plWis (c : Pk) (s : Int) : Bool := !(decide (c.n = 0) || (decide (s < 1) || decide (32 ≤ s)))
theorem plWire_ok {c : Pk} (h : PkOk c) (s : Int) (on : Bool) : PkOk (plWire c s on) := by
  unfold plWire
  repeat' split
  · exact h
  · exact setl_ok (h.setW _ _ _)
  · exact setl_ok (h.setW _ _ _)
noncomputable def s_pwire (args : List AV) (H : AH) : Option (AV × AH) :=
  match args with
  | [.c x, .c (.i s), .c (.b on)] => (pkQ H x).map fun c => (.c (.b (plWis c s)), pkS H x (plWire c s on))
  | _ => none
theorem s_pwire_eq {H : AH} {x : Sc} {c : Pk} (h : pkQ H x = some c) {s : Int} {on : Bool} : s_pwire [.c x, .c (.i s), .c (.b on)] H = some (.c (.b (plWis c s)), pkS H x (plWire c s on)) := by simp only [s_pwire, h, Option.map_some]
theorem len_pwire (args : List AV) (H : AH) (v : AV) (H1 : AH) (h : s_pwire args H = some (v, H1)) : H.length ≤ H1.length := by
  unfold s_pwire at h
  split at h
  · rw [Option.map_eq_some_iff] at h
    obtain ⟨c, _, h⟩ := h
    simp only [Prod.mk.injEq] at h
    rw [← h.2, pkS, setAt_len]; exact Nat.le_refl _
  · simp at h
set_option maxRecDepth 100000 in
set_option maxHeartbeats 2000000 in
theorem ok_pwire : FpOk Try.prog 32 s_pwire := by
  refine fp_ok (s := s_pwire) (tab := [(68, .pu s_pbit), (69, .fp s_psettle)]) hmix (TabOk.cons (e := .pu s_pbit) ok_pbit (TabOk.cons (e := .fp s_psettle) ok_psettle TabOk.nil)) Try.func32 rfl Try.results32 Try.ntmps32 (by kernel_rfl) (by kernel_rfl) len_pwire ?_
  intro args H v H1 h hargs hH
  unfold s_pwire at h
  split at h
  · rename_i x s on
    rw [Option.map_eq_some_iff] at h
    obtain ⟨c, hc, h⟩ := h
    simp only [Prod.mk.injEq] at h
    obtain ⟨rfl, rfl⟩ := h
    obtain ⟨id, o, cs, F, rfl, ck⟩ := pkQ_is hc
    have lid := ck.lid
    have ho := ck.ho
    have q := ck.q
    have d0 := ck.d0
    have dw : cs.getD (o + 33) .any = .k .u32 (c.w.toNat : Int) := ck.dw
    have ww : ∀ v : BitVec 32, List.take (o + 33) cs ++ .k .u32 (v.toNat : Int) :: List.drop (o + 33 + 1) cs = F { c with w := v } := fun v => wr_tp (ck.ww v)
    have hb := fun d => ck.bel d hH
    refine ⟨by simp only [List.length_cons, List.length_nil]; decide, ?_⟩
    rw [ck.set]
    have no : (c.n = 0 ∨ s < 1 ∨ 32 ≤ s) → plWire c s on = c := fun h => if_pos h
    by_cases z : c.n = 0
    · rw [no (.inl z), ck.self, ← ho, set_self rfl lid]
      have e : plWis c s = false := by simp [plWis, z]
      rw [e]
      (try simp (config := { maxSteps := 10000000 }) only [go_sem, seval, ho, d0, z]; repeat (simp (disch := omega) only [w64_d, ipos, ineg, dpos, dneg]; try simp (config := { maxSteps := 10000000 }) only [go_sem, seval, ho, d0, z]))
      exact fin_fp rfl (subH_refl _) hH (Nat.le_refl _)
    by_cases s1 : s < 1
    · rw [no (.inr (.inl s1)), ck.self, ← ho, set_self rfl lid]
      have e : plWis c s = false := by simp [plWis, s1]
      rw [e]
      (try simp (config := { maxSteps := 10000000 }) only [go_sem, seval, ho, d0, z, s1]; repeat (simp (disch := omega) only [w64_d, ipos, ineg, dpos, dneg]; try simp (config := { maxSteps := 10000000 }) only [go_sem, seval, ho, d0, z, s1]))
      exact fin_fp rfl (subH_refl _) hH (Nat.le_refl _)
    by_cases s2 : 32 ≤ s
    · rw [no (.inr (.inr s2)), ck.self, ← ho, set_self rfl lid]
      have e : plWis c s = false := by simp [plWis, s2]
      rw [e]
      (try simp (config := { maxSteps := 10000000 }) only [go_sem, seval, ho, d0, z, s1, s2]; repeat (simp (disch := omega) only [w64_d, ipos, ineg, dpos, dneg]; try simp (config := { maxSteps := 10000000 }) only [go_sem, seval, ho, d0, z, s1, s2]))
      exact fin_fp rfl (subH_refl _) hH (Nat.le_refl _)
    have e : plWis c s = true := by simp [plWis, z, s1, s2]
    rw [e]
    have eb : s_pbit [.c (.i s)] = some (.c (.k .u32 ((bitK s.toNat).toNat : Int))) := by
      simp only [s_pbit]
      first | rfl | (rw [if_pos (by omega)]; rfl)
    cases on
    · have e1 : plWire c s false = setl { c with w := c.w &&& ~~~(bitK s.toNat) } := by unfold plWire; rw [if_neg (by omega), if_neg (by decide)]
      have ok1 : PkOk { c with w := c.w &&& ~~~(bitK s.toNat) } := ck.ok.setW _ _ _
      have st := s_psettle_eq (ck.nq ok1)
      rw [ck.ns ok1] at st
      rw [e1]
      (try simp (config := { maxSteps := 10000000 }) only [go_sem, seval, s_pbit_eq, s_psettle_eq, ho, d0, dw, ww, z, s1, s2, eb, st]; repeat (simp (disch := omega) only [w64_d, ipos, ineg, dpos, dneg]; try simp (config := { maxSteps := 10000000 }) only [go_sem, seval, s_pbit_eq, s_psettle_eq, ho, d0, dw, ww, z, s1, s2, eb, st]))
      (repeat' first | apply And.intro | (intro c; exact absurd c (by omega)) | (intro _; kernel_rfl) | kernel_rfl)
      exact fin_fp rfl (subH_refl _) (hb _) (by simp)
    · have e1 : plWire c s true = setl { c with w := c.w ||| bitK s.toNat } := by unfold plWire; rw [if_neg (by omega), if_pos rfl]
      have ok1 : PkOk { c with w := c.w ||| bitK s.toNat } := ck.ok.setW _ _ _
      have st := s_psettle_eq (ck.nq ok1)
      rw [ck.ns ok1] at st
      rw [e1]
      (try simp (config := { maxSteps := 10000000 }) only [go_sem, seval, s_pbit_eq, s_psettle_eq, ho, d0, dw, ww, z, s1, s2, eb, st]; repeat (simp (disch := omega) only [w64_d, ipos, ineg, dpos, dneg]; try simp (config := { maxSteps := 10000000 }) only [go_sem, seval, s_pbit_eq, s_psettle_eq, ho, d0, dw, ww, z, s1, s2, eb, st]))
      (repeat' first | apply And.intro | (intro c; exact absurd c (by omega)) | (intro _; kernel_rfl) | kernel_rfl)
      exact fin_fp rfl (subH_refl _) (hb _) (by simp)
  · simp at h
end
end Go.Proofs.Ytfddaaplnnlfoaa
