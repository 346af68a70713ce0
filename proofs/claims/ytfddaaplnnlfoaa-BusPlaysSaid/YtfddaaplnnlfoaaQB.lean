/- The controller of a bus: what is written: contracts. -/
import Derived.Test.YtfddaaplnnlfoaaQA
namespace Go.Proofs.Ytfddaaplnnlfoaa
open Go.Am
set_option linter.unusedSimpArgs false
set_option linter.unusedVariables false
noncomputable section

theorem wrap_sw (v : BitVec 64) : IntKind.u32.wrap (v.toNat : Int) = ((v.setWidth 32).toNat : Int) := by
  rw [BitVec.toNat_setWidth]
  simp [IntKind.wrap, IntKind.bits, IntKind.signed]
theorem and7 (v : BitVec 64) : (v &&& 7#64).toNat ≤ 7 := by
  rw [BitVec.toNat_and]
  exact Nat.and_le_right
theorem wrap_7 (v : BitVec 64) : IntKind.u8.wrap ((v &&& 7#64).toNat : Int) = ((v &&& 7#64).toNat : Int) := by
  have := and7 v
  generalize (v &&& 7#64).toNat = m at *
  have h : ∀ x : Int, IntKind.u8.wrap x = x % 256 := fun x => by simp [IntKind.wrap, IntKind.bits, IntKind.signed]
  rw [h]
  omega
theorem zero_w32 (A : BitVec 32) : ((A.toNat : Int) = 0) = (A = 0#32) := propext ⟨fun h => BitVec.eq_of_toNat_eq (by show _ = 0; omega), fun h => by rw [h]; rfl⟩
def plGo (c : Pk) (i : Nat) (s : BitVec 32) : Prop := s.toNat < 32 ∧ ¬ c.e.getD i 0#32 &&& c.s &&& bitK s.toNat = 0#32
instance {c : Pk} {i : Nat} {s : BitVec 32} : Decidable (plGo c i s) := by unfold plGo; infer_instance
def plW (c : Pk) (a : Pa) (v : BitVec 64) : Pk :=
  if a.k = 1 then { c with p := c.p.set a.i ((v &&& 7#64).toNat : Int) } else if a.k = 3 then { c with e := c.e.set a.i (v.setWidth 32 &&& ~~~1#32) }
  else if a.k = 4 then { c with l := c.l.set a.i ((v &&& 7#64).toNat : Int) } else if a.k = 5 ∧ plGo c a.i (v.setWidth 32) then setl { c with s := c.s &&& ~~~(bitK (v.setWidth 32).toNat) } else c
theorem plW_ok {c : Pk} (h : PkOk c) (a : Pa) (v : BitVec 64) : PkOk (plW c a v) := by
  have := and7 v
  unfold plW
  repeat' split
  · exact h.setP _ (by omega)
  · exact h.setE _ _
  · exact h.setL _ (by omega)
  · exact setl_ok (h.setW _ _ _)
  · exact h
noncomputable def s_pwrite (args : List AV) (H : AH) : Option (AV × AH) :=
  match args with
  | [.c x, .c (.u off), .c (.i sz), .c (.u v)] => (pkQ H x).map fun c => (.c (.b (!decide ((plAt c.n off sz).k = 0))), pkS H x (plW c (plAt c.n off sz) v))
  | _ => none
theorem s_pwrite_eq {H : AH} {x : Sc} {c : Pk} (h : pkQ H x = some c) {off v : BitVec 64} {sz : Int} : s_pwrite [.c x, .c (.u off), .c (.i sz), .c (.u v)] H = some (.c (.b (!decide ((plAt c.n off sz).k = 0))), pkS H x (plW c (plAt c.n off sz) v)) := by simp only [s_pwrite, h, Option.map_some]
theorem len_pwrite (args : List AV) (H : AH) (v : AV) (H1 : AH) (h : s_pwrite args H = some (v, H1)) : H.length ≤ H1.length := by
  unfold s_pwrite at h
  split at h
  · rw [Option.map_eq_some_iff] at h
    obtain ⟨c, _, h⟩ := h
    simp only [Prod.mk.injEq] at h
    rw [← h.2, pkS, setAt_len]; exact Nat.le_refl _
  · simp at h
set_option maxRecDepth 100000 in
set_option maxHeartbeats 2000000 in
theorem ok_pwrite : FpOk Try.prog 65 s_pwrite := by
  refine fp_ok (s := s_pwrite) (tab := [(84, .fq s_pfind), (68, .pu s_pbit), (69, .fp s_psettle)]) hmix (TabOk.cons (e := .fq s_pfind) ok_pfind (TabOk.cons (e := .pu s_pbit) ok_pbit (TabOk.cons (e := .fp s_psettle) ok_psettle TabOk.nil))) Try.func65 rfl Try.results65 Try.ntmps65 (by kernel_rfl) (by kernel_rfl) len_pwrite ?_
  intro args H v H1 h hargs hH
  unfold s_pwrite at h
  split at h
  · rename_i x off sz v
    rw [Option.map_eq_some_iff] at h
    obtain ⟨c, hc, h⟩ := h
    simp only [Prod.mk.injEq] at h
    obtain ⟨rfl, rfl⟩ := h
    obtain ⟨id, o, cs, F, rfl, ck⟩ := pkQ_is hc
    have lid := ck.lid
    have ho := ck.ho
    have q := ck.q
    have f0 := s_pfind_eq hc (off := off) (sz := sz)
    have hi := plAt_i ck.ok.n0 ck.ok.n1 off sz
    have hk := plAt_k c.n off sz
    have hb := fun d => ck.bel d hH
    have w7 := wrap_7 v
    have sw := wrap_sw v
    refine ⟨by simp only [List.length_cons, List.length_nil]; decide, ?_⟩
    rw [ck.set]
    generalize plAt c.n off sz = a at *
    obtain ⟨ak, ai⟩ := a
    simp only at hi hk f0
    have sf : F c = cs := ck.self
    have hs : H.set id (.own cs) = H := by rw [← ho, set_self rfl lid]
    rcases hk with rfl | rfl | rfl | rfl | rfl | rfl
    · have e : plW c ⟨0, ai⟩ v = c := by simp [plW]
      rw [e, sf, hs]
      (try simp (config := { maxSteps := 10000000 }) only [go_sem, seval, s_pfind_eq, s_pbit_eq, s_psettle_eq, f0]; repeat (simp (disch := omega) only [w64_d, ipos, ineg, dpos, dneg]; try simp (config := { maxSteps := 10000000 }) only [go_sem, seval, s_pfind_eq, s_pbit_eq, s_psettle_eq, f0]))
      exact fin_fp rfl (subH_refl _) hH (Nat.le_refl _)
    · have e : plW c ⟨1, ai⟩ v = { c with p := c.p.set ai ((v &&& 7#64).toNat : Int) } := by simp [plW]
      have wp : List.take (o + 1 + ai) cs ++ .k .u8 ((v &&& 7#64).toNat : Int) :: List.drop (o + 1 + ai + 1) cs = F { c with p := c.p.set ai ((v &&& 7#64).toNat : Int) } := wr_tp (ck.wp ai hi.1 _)
      rw [e]
      (try simp (config := { maxSteps := 10000000 }) only [go_sem, seval, s_pfind_eq, s_pbit_eq, s_psettle_eq, f0, ho, w7, wp, Int.toNat_natCast]; repeat (simp (disch := omega) only [w64_d, ipos, ineg, dpos, dneg]; try simp (config := { maxSteps := 10000000 }) only [go_sem, seval, s_pfind_eq, s_pbit_eq, s_psettle_eq, f0, ho, w7, wp, Int.toNat_natCast]))
      (repeat' first | apply And.intro | (intro c; exact absurd c (by omega)) | (intro _; kernel_rfl) | kernel_rfl)
      exact fin_fp rfl (subH_refl _) (hb _) (by simp)
    · have e : plW c ⟨2, ai⟩ v = c := by simp [plW]
      rw [e, sf, hs]
      (try simp (config := { maxSteps := 10000000 }) only [go_sem, seval, s_pfind_eq, s_pbit_eq, s_psettle_eq, f0]; repeat (simp (disch := omega) only [w64_d, ipos, ineg, dpos, dneg]; try simp (config := { maxSteps := 10000000 }) only [go_sem, seval, s_pfind_eq, s_pbit_eq, s_psettle_eq, f0]))
      exact fin_fp rfl (subH_refl _) hH (Nat.le_refl _)
    · have i16 := hi.2 (by decide)
      have e : plW c ⟨3, ai⟩ v = { c with e := c.e.set ai (v.setWidth 32 &&& ~~~1#32) } := by simp [plW]
      have we : List.take (o + 36 + ai) cs ++ .k .u32 ((v.setWidth 32 &&& ~~~1#32).toNat : Int) :: List.drop (o + 36 + ai + 1) cs = F { c with e := c.e.set ai (v.setWidth 32 &&& ~~~1#32) } := wr_tp (ck.we ai i16 _)
      rw [e]
      have n1 : ~~~1#32 = 4294967294#32 := rfl
      rw [n1] at we ⊢
      (try simp (config := { maxSteps := 10000000 }) only [go_sem, seval, s_pfind_eq, s_pbit_eq, s_psettle_eq, f0, ho, sw, we, Int.toNat_natCast]; repeat (simp (disch := omega) only [w64_d, ipos, ineg, dpos, dneg]; try simp (config := { maxSteps := 10000000 }) only [go_sem, seval, s_pfind_eq, s_pbit_eq, s_psettle_eq, f0, ho, sw, we, Int.toNat_natCast]))
      (repeat' first | apply And.intro | (intro c; exact absurd c (by omega)) | (intro _; kernel_rfl) | kernel_rfl)
      exact fin_fp rfl (subH_refl _) (hb _) (by simp)
    · have i16 := hi.2 (by decide)
      have e : plW c ⟨4, ai⟩ v = { c with l := c.l.set ai ((v &&& 7#64).toNat : Int) } := by simp [plW]
      have wl : List.take (o + 52 + ai) cs ++ .k .u8 ((v &&& 7#64).toNat : Int) :: List.drop (o + 52 + ai + 1) cs = F { c with l := c.l.set ai ((v &&& 7#64).toNat : Int) } := wr_tp (ck.wl ai i16 _)
      rw [e]
      (try simp (config := { maxSteps := 10000000 }) only [go_sem, seval, s_pfind_eq, s_pbit_eq, s_psettle_eq, f0, ho, w7, wl, Int.toNat_natCast]; repeat (simp (disch := omega) only [w64_d, ipos, ineg, dpos, dneg]; try simp (config := { maxSteps := 10000000 }) only [go_sem, seval, s_pfind_eq, s_pbit_eq, s_psettle_eq, f0, ho, w7, wl, Int.toNat_natCast]))
      (repeat' first | apply And.intro | (intro c; exact absurd c (by omega)) | (intro _; kernel_rfl) | kernel_rfl)
      exact fin_fp rfl (subH_refl _) (hb _) (by simp)
    · have i16 := hi.2 (by decide)
      have de : cs.getD (o + 36 + ai) .any = .k .u32 ((c.e.getD ai 0#32).toNat : Int) := ck.de ai i16
      have ds : cs.getD (o + 35) .any = .k .u32 (c.s.toNat : Int) := ck.ds
      have ws : ∀ w : BitVec 32, List.take (o + 35) cs ++ .k .u32 (w.toNat : Int) :: List.drop (o + 35 + 1) cs = F { c with s := w } := fun w => wr_tp (ck.ws w)
      have e : plW c ⟨5, ai⟩ v = if plGo c ai (v.setWidth 32) then setl { c with s := c.s &&& ~~~(bitK (v.setWidth 32).toNat) } else c := by simp [plW]
      generalize v.setWidth 32 = V at *
      by_cases v32 : V.toNat < 32
      · have v32' : (V.toNat : Int) < 32 := by omega
        have eb : s_pbit [.c (.i (V.toNat : Int))] = some (.c (.k .u32 ((bitK V.toNat).toNat : Int))) := by
          simp only [s_pbit]
          rw [if_pos (by omega), Int.toNat_natCast]; rfl
        have ez := zero_w32 (c.e.getD ai 0#32 &&& c.s &&& bitK V.toNat)
        rcases Classical.propComplete (c.e.getD ai 0#32 &&& c.s &&& bitK V.toNat = 0#32) with z | z
        · rw [z] at ez
          rw [if_neg (fun h : plGo c ai V => h.2 (of_eq_true z))] at e
          rw [e, sf, hs]
          (try simp (config := { maxSteps := 10000000 }) only [go_sem, seval, s_pfind_eq, s_pbit_eq, s_psettle_eq, f0, ho, sw, de, ds, eb, ez, v32', Int.toNat_natCast]; repeat (simp (disch := omega) only [w64_d, ipos, ineg, dpos, dneg]; try simp (config := { maxSteps := 10000000 }) only [go_sem, seval, s_pfind_eq, s_pbit_eq, s_psettle_eq, f0, ho, sw, de, ds, eb, ez, v32', Int.toNat_natCast]))
          exact fin_fp rfl (subH_refl _) hH (Nat.le_refl _)
        · rw [z] at ez
          have ok1 : PkOk { c with s := c.s &&& ~~~(bitK V.toNat) } := ck.ok.setW _ _ _
          have st := s_psettle_eq (ck.nq ok1)
          rw [ck.ns ok1] at st
          rw [if_pos (show plGo c ai V from ⟨v32, of_eq_false z⟩)] at e
          rw [e]
          (try simp (config := { maxSteps := 10000000 }) only [go_sem, seval, s_pfind_eq, s_pbit_eq, s_psettle_eq, f0, ho, sw, de, ds, eb, ez, v32', ws, st, Int.toNat_natCast]; repeat (simp (disch := omega) only [w64_d, ipos, ineg, dpos, dneg]; try simp (config := { maxSteps := 10000000 }) only [go_sem, seval, s_pfind_eq, s_pbit_eq, s_psettle_eq, f0, ho, sw, de, ds, eb, ez, v32', ws, st, Int.toNat_natCast]))
          (repeat' first | apply And.intro | (intro c; exact absurd c (by omega)) | (intro _; kernel_rfl) | kernel_rfl)
          exact fin_fp rfl (subH_refl _) (hb _) (by simp)
      · have v32' : ¬ (V.toNat : Int) < 32 := by omega
        rw [if_neg (fun h : plGo c ai V => v32 h.1)] at e
        rw [e, sf, hs]
        (try simp (config := { maxSteps := 10000000 }) only [go_sem, seval, s_pfind_eq, s_pbit_eq, s_psettle_eq, f0, ho, sw, v32', Int.toNat_natCast]; repeat (simp (disch := omega) only [w64_d, ipos, ineg, dpos, dneg]; try simp (config := { maxSteps := 10000000 }) only [go_sem, seval, s_pfind_eq, s_pbit_eq, s_psettle_eq, f0, ho, sw, v32', Int.toNat_natCast]))
        exact fin_fp rfl (subH_refl _) hH (Nat.le_refl _)
  · simp at h
end
end Go.Proofs.Ytfddaaplnnlfoaa
