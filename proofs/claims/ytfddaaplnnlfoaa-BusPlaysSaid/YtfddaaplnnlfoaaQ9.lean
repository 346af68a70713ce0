/- The controller of a bus: who is called, what is read: contracts. -/
import Derived.Test.YtfddaaplnnlfoaaQ8
namespace Go.Proofs.Ytfddaaplnnlfoaa
open Go.Am
set_option linter.unusedSimpArgs false
set_option linter.unusedVariables false
noncomputable section

theorem PkIs.next {H : AH} {id o : Nat} {cs : List Sc} {c : Pk} {F : Pk → List Sc} (h : PkIs H id o cs c F) {d : Pk} (hd : PkOk d) : PkIs (H.set id (.own (F d))) id o (F d) d F := by
  obtain ⟨id', o', cs', F', hx, k⟩ := pkQ_is (h.nq hd)
  simp only [Sc.p.injEq, and_true] at hx
  obtain ⟨rfl, rfl⟩ := hx
  have e1 : F' = F := funext fun e => by
    have a := k.set e
    rw [h.ns hd, List.set_set] at a
    have b := congrArg (fun H => hg H id) a
    simp only [hg_set_same h.lid] at b
    exact (AObj.own.inj b).symm
  have e2 : cs' = F d := by rw [← k.self, e1]
  rw [e1, e2] at k
  exact k
def plLine (c : Pk) (k : Int) : Bool := decide (0 ≤ k ∧ k < 2 * c.n) && decide (0 < bstN c.p (c.q &&& c.e.getD k.toNat 0#32) (c.l.getD k.toNat 0) 31)
noncomputable def s_pline (args : List AV) (H : AH) : Option AV :=
  match args with
  | [.c x, .c (.i k)] => (pkQ H x).map fun c => .c (.b (plLine c k))
  | _ => none
theorem s_pline_eq {H : AH} {x : Sc} {c : Pk} (h : pkQ H x = some c) {k : Int} : s_pline [.c x, .c (.i k)] H = some (.c (.b (plLine c k))) := by simp only [s_pline, h, Option.map_some]
set_option maxRecDepth 100000 in
set_option maxHeartbeats 2000000 in
theorem ok_pline : FpOk Try.prog 35 (fun args H => (s_pline args H).map fun v => (v, H)) := by
  refine fq_ok (s := s_pline) (tab := [(71, .fq s_pbest)]) hmix (TabOk.cons (e := .fq s_pbest) ok_pbest TabOk.nil) Try.func35 rfl Try.results35 Try.ntmps35 (by kernel_rfl) (by kernel_rfl) ?_
  intro args H v h hargs hH
  unfold s_pline at h
  split at h
  · rename_i x k
    rw [Option.map_eq_some_iff] at h
    obtain ⟨c, hc, rfl⟩ := h
    obtain ⟨id, o, cs, F, rfl, ck⟩ := pkQ_is hc
    have lid := ck.lid
    have ho := ck.ho
    have q := ck.q
    have d0 := ck.d0
    have n0 := ck.ok.n0
    have n1 := ck.ok.n1
    have e2 : w64 (2 * c.n) = 2 * c.n := w64_d (by omega) (by omega)
    refine ⟨by simp only [List.length_cons, List.length_nil]; decide, rfl, ?_⟩
    by_cases k0 : k < 0
    · have e : plLine c k = false := by unfold plLine; rw [decide_eq_false (by omega)]; rfl
      rw [e]
      (try simp (config := { maxSteps := 10000000 }) only [go_sem, seval, ho, d0, k0]; repeat (simp (disch := omega) only [w64_d, ipos, ineg, dpos, dneg]; try simp (config := { maxSteps := 10000000 }) only [go_sem, seval, ho, d0, k0]))
      exact subH_refl _
    by_cases k1 : 2 * c.n ≤ k
    · have e : plLine c k = false := by unfold plLine; rw [decide_eq_false (by omega)]; rfl
      rw [e]
      (try simp (config := { maxSteps := 10000000 }) only [go_sem, seval, ho, d0, e2, k0, k1]; repeat (simp (disch := omega) only [w64_d, ipos, ineg, dpos, dneg]; try simp (config := { maxSteps := 10000000 }) only [go_sem, seval, ho, d0, e2, k0, k1]))
      exact subH_refl _
    obtain ⟨m, rfl⟩ : ∃ m : Nat, k = (m : Int) := ⟨k.toNat, by omega⟩
    have hm : m < 16 := by omega
    have dq : cs.getD (o + 34) .any = .k .u32 (c.q.toNat : Int) := ck.dq
    have de : cs.getD (o + 36 + m) .any = .k .u32 ((c.e.getD m 0#32).toNat : Int) := ck.de m hm
    have dl : cs.getD (o + 52 + m) .any = .k .u8 (c.l.getD m 0) := ck.dl m hm
    have pb := fun am ab => s_pbest_eq hc (am := am) (ab := ab)
    have e : plLine c m = decide (0 < bstN c.p (c.q &&& c.e.getD m 0#32) (c.l.getD m 0) 31) := by unfold plLine; rw [decide_eq_true (by omega), Int.toNat_natCast]; rfl
    rw [e]
    have ez : (0 < ((bstN c.p (c.q &&& c.e.getD m 0#32) (c.l.getD m 0) 31 : Nat) : Int)) = (0 < bstN c.p (c.q &&& c.e.getD m 0#32) (c.l.getD m 0) 31) := propext (by omega)
    (try simp (config := { maxSteps := 10000000 }) only [go_sem, seval, s_pbest_eq, ho, d0, e2, k0, k1, dq, de, dl, pb, ez, Int.toNat_natCast]; repeat (simp (disch := omega) only [w64_d, ipos, ineg, dpos, dneg]; try simp (config := { maxSteps := 10000000 }) only [go_sem, seval, s_pbest_eq, ho, d0, e2, k0, k1, dq, de, dl, pb, ez, Int.toNat_natCast]))
    exact subH_refl _
  · simp at h
end
end Go.Proofs.Ytfddaaplnnlfoaa
