/- The clock of a bus: what is read, written and told: contracts. -/
import Derived.Test.YtfddaaplnnlfoaaQ2
namespace Go.Proofs.Ytfddaaplnnlfoaa
open Go.Am
set_option linter.unusedSimpArgs false
set_option linter.unusedVariables false
noncomputable section

theorem wr_td {cs m : List Sc} {k : Nat} {x : Sc} (h : wr cs k [x] = m) : List.take k cs ++ x :: List.drop (k + 1) cs = m := by rw [← h, wr_un]; simp
theorem ckAt_k (n : Int) (off : BitVec 64) (sz : Int) : (ckAt n off sz).k = 0 ∨ (ckAt n off sz).k = 1 ∨ (ckAt n off sz).k = 2 ∨ (ckAt n off sz).k = 3 := by
  unfold ckAt
  repeat' split
  all_goals simp
def ckV (x : Ck) (a : Ca) : BitVec 64 := if a.k = 3 then x.t else x.c.getD a.h 0#64
def ckR (x : Ck) (a : Ca) (sz : Int) : BitVec 64 :=
  if a.k = 0 then 0#64 else if a.k = 1 then (if x.s.getD a.h false = true then 1#64 else 0#64) else if sz = 8 then ckV x a else ckV x a >>> a.up.toNat &&& 4294967295#64
def ckPut (x : Ck) (a : Ca) (v : BitVec 64) : Ck := if a.k = 3 then { x with t := v } else { x with c := x.c.set a.h v }
def ckW (x : Ck) (a : Ca) (sz : Int) (v : BitVec 64) : Ck :=
  if a.k = 0 then x else if a.k = 1 then { x with s := x.s.set a.h (decide (v &&& 1#64 = 1#64)) } else if sz = 8 then ckPut x a v
  else ckPut x a (ckV x a &&& ~~~(4294967295#64 <<< a.up.toNat) ||| v <<< a.up.toNat &&& 4294967295#64 <<< a.up.toNat)
theorem ckW_ok {x : Ck} (h : CkOk x) (a : Ca) (sz : Int) (v : BitVec 64) : CkOk (ckW x a sz v) := by
  have p : ∀ w, CkOk (ckPut x a w) := fun w => by
    unfold ckPut
    split
    · exact h.t _
    · exact h.setC _ _
  unfold ckW
  repeat' split
  · exact h
  · exact h.setS _ _
  · exact p _
  · exact p _
noncomputable def s_cread (args : List AV) (H : AH) : Option AV :=
  match args with
  | [.c x, .c (.u off), .c (.i sz)] => (ckQ H x).map fun c => .t [.c (.u (ckR c (ckAt c.n off sz) sz)), .c (.b (!decide ((ckAt c.n off sz).k = 0)))]
  | _ => none
theorem s_cread_eq {H : AH} {x : Sc} {c : Ck} (h : ckQ H x = some c) {off : BitVec 64} {sz : Int} : s_cread [.c x, .c (.u off), .c (.i sz)] H = some (.t [.c (.u (ckR c (ckAt c.n off sz) sz)), .c (.b (!decide ((ckAt c.n off sz).k = 0)))]) := by simp only [s_cread, h, Option.map_some]
set_option maxRecDepth 100000 in
set_option maxHeartbeats 2000000 in
theorem ok_cread : FpOk Try.prog 58 (fun args H => (s_cread args H).map fun v => (v, H)) := by
  refine fq_ok (s := s_cread) (tab := [(83, .fq s_cfind)]) hmix (TabOk.cons (e := .fq s_cfind) ok_cfind TabOk.nil) Try.func58 rfl Try.results58 Try.ntmps58 (by kernel_rfl) (by kernel_rfl) ?_
  intro args H v h hargs hH
  unfold s_cread at h
  split at h
  · rename_i x off sz
    rw [Option.map_eq_some_iff] at h
    obtain ⟨c, hc, rfl⟩ := h
    obtain ⟨id, o, cs, F, rfl, ck⟩ := ckQ_is hc
    have lid := ck.lid
    have ho := ck.ho
    have q := ck.q
    have d1 := ck.d1
    have hoX : ∀ X, hg (H ++ X) id = .own cs := fun X => by rw [hg_lt' lid, ho]
    refine ⟨by simp only [List.length_cons, List.length_nil]; decide, rfl, ?_⟩
    have f0 := s_cfind_eq hc (off := off) (sz := sz)
    have hh := ckAt_h ck.ok.n0 ck.ok.n1 off sz
    have hk := ckAt_k c.n off sz
    generalize ckAt c.n off sz = a at *
    have dc := ck.dc a.h hh
    have ds := ck.ds a.h hh
    rcases hk with k | k | k | k
    · simp only [ckP, k] at f0
      (try simp (config := { maxSteps := 10000000 }) only [go_sem, seval, s_cfind_eq, f0, k, ckR]; repeat (simp (disch := omega) only [w64_d, ipos, ineg, dpos, dneg]; try simp (config := { maxSteps := 10000000 }) only [go_sem, seval, s_cfind_eq, f0, k, ckR]))
      exact subH_app _ _
    · simp only [ckP, k] at f0
      cases hs : c.s.getD a.h false
      all_goals rw [hs] at ds
      all_goals (try simp (config := { maxSteps := 10000000 }) only [go_sem, seval, s_cfind_eq, f0, k, ckR, ho, hoX, ds, hs, Int.toNat_natCast]; repeat (simp (disch := omega) only [w64_d, ipos, ineg, dpos, dneg]; try simp (config := { maxSteps := 10000000 }) only [go_sem, seval, s_cfind_eq, f0, k, ckR, ho, hoX, ds, hs, Int.toNat_natCast]))
      all_goals exact subH_app _ _
    · simp only [ckP, k] at f0
      rcases Classical.propComplete (sz = 8) with s8 | s8
      all_goals (try simp (config := { maxSteps := 10000000 }) only [go_sem, seval, s_cfind_eq, f0, k, ckR, ckV, ho, hoX, dc, s8]; repeat (simp (disch := omega) only [w64_d, ipos, ineg, dpos, dneg]; try simp (config := { maxSteps := 10000000 }) only [go_sem, seval, s_cfind_eq, f0, k, ckR, ckV, ho, hoX, dc, s8]))
      all_goals exact subH_app _ _
    · simp only [ckP, k] at f0
      rcases Classical.propComplete (sz = 8) with s8 | s8
      all_goals (try simp (config := { maxSteps := 10000000 }) only [go_sem, seval, s_cfind_eq, f0, k, ckR, ckV, ho, hoX, d1, s8]; repeat (simp (disch := omega) only [w64_d, ipos, ineg, dpos, dneg]; try simp (config := { maxSteps := 10000000 }) only [go_sem, seval, s_cfind_eq, f0, k, ckR, ckV, ho, hoX, d1, s8]))
      all_goals exact subH_app _ _
  · simp at h
noncomputable def s_cwrite (args : List AV) (H : AH) : Option (AV × AH) :=
  match args with
  | [.c x, .c (.u off), .c (.i sz), .c (.u v)] => (ckQ H x).map fun c => (.c (.b (!decide ((ckAt c.n off sz).k = 0))), ckS H x (ckW c (ckAt c.n off sz) sz v))
  | _ => none
theorem s_cwrite_eq {H : AH} {x : Sc} {c : Ck} (h : ckQ H x = some c) {off v : BitVec 64} {sz : Int} : s_cwrite [.c x, .c (.u off), .c (.i sz), .c (.u v)] H = some (.c (.b (!decide ((ckAt c.n off sz).k = 0))), ckS H x (ckW c (ckAt c.n off sz) sz v)) := by simp only [s_cwrite, h, Option.map_some]
theorem len_cwrite (args : List AV) (H : AH) (v : AV) (H1 : AH) (h : s_cwrite args H = some (v, H1)) : H.length ≤ H1.length := by
  unfold s_cwrite at h
  split at h
  · rw [Option.map_eq_some_iff] at h
    obtain ⟨c, _, h⟩ := h
    simp only [Prod.mk.injEq] at h
    rw [← h.2, ckS, setAt_len]; exact Nat.le_refl _
  · simp at h
set_option maxRecDepth 100000 in
set_option maxHeartbeats 2000000 in
theorem ok_cwrite : FpOk Try.prog 64 s_cwrite := by
  refine fp_ok (s := s_cwrite) (tab := [(83, .fq s_cfind)]) hmix (TabOk.cons (e := .fq s_cfind) ok_cfind TabOk.nil) Try.func64 rfl Try.results64 Try.ntmps64 (by kernel_rfl) (by kernel_rfl) len_cwrite ?_
  intro args H v H1 h hargs hH
  unfold s_cwrite at h
  split at h
  · rename_i x off sz w
    rw [Option.map_eq_some_iff] at h
    obtain ⟨c, hc, h⟩ := h
    simp only [Prod.mk.injEq] at h
    obtain ⟨rfl, rfl⟩ := h
    obtain ⟨id, o, cs, F, rfl, ck⟩ := ckQ_is hc
    have lid := ck.lid
    have ho := ck.ho
    have q := ck.q
    have d1 := ck.d1
    have hoX : ∀ X, hg (H ++ X) id = .own cs := fun X => by rw [hg_lt' lid, ho]
    have sX : ∀ X y, (H ++ X).set id y = H.set id y ++ X := fun X y => List.set_append_left _ _ lid
    refine ⟨by simp only [List.length_cons, List.length_nil]; decide, ?_⟩
    have f0 := s_cfind_eq hc (off := off) (sz := sz)
    have hh := ckAt_h ck.ok.n0 ck.ok.n1 off sz
    have hk := ckAt_k c.n off sz
    have hb := fun d => ck.bel d hH
    rw [ck.set]
    generalize ckAt c.n off sz = a at *
    have dc := ck.dc a.h hh
    have wc := fun v => wr_td (ck.wc a.h hh v)
    have w1 := fun v => wr_td (ck.w1 v)
    have ws := fun v => wr_td (ck.ws a.h hh v)
    rcases hk with k | k | k | k
    · have e : ckW c a sz w = c := by unfold ckW; rw [if_pos k]
      rw [e, ck.self, ← ho, set_self rfl lid]
      simp only [ckP, k] at f0
      (try simp (config := { maxSteps := 10000000 }) only [go_sem, seval, s_cfind_eq, f0, k]; repeat (simp (disch := omega) only [w64_d, ipos, ineg, dpos, dneg]; try simp (config := { maxSteps := 10000000 }) only [go_sem, seval, s_cfind_eq, f0, k]))
      exact fin_fp rfl (subH_app _ _) hH (Nat.le_refl _)
    · simp only [ckP, k] at f0
      have e : ckW c a sz w = { c with s := c.s.set a.h (decide (w &&& 1#64 = 1#64)) } := by unfold ckW; rw [if_neg (by rw [k]; decide), if_pos k]
      rw [e]
      have hb := hb { c with s := c.s.set a.h (decide (w &&& 1#64 = 1#64)) }
      have ws := ws (decide (w &&& 1#64 = 1#64))
      (try simp (config := { maxSteps := 10000000 }) only [go_sem, seval, s_cfind_eq, f0, k, ho, hoX, ws, sX, Int.toNat_natCast]; repeat (simp (disch := omega) only [w64_d, ipos, ineg, dpos, dneg]; try simp (config := { maxSteps := 10000000 }) only [go_sem, seval, s_cfind_eq, f0, k, ho, hoX, ws, sX, Int.toNat_natCast]))
      (repeat' first | apply And.intro | (intro c; exact absurd c (by omega)) | (intro _; kernel_rfl) | kernel_rfl)
      exact fin_fp rfl (subH_app _ _) hb (by simp)
    · simp only [ckP, k] at f0
      rcases Classical.propComplete (sz = 8) with s8 | s8
      · have e : ckW c a sz w = { c with c := c.c.set a.h w } := by unfold ckW ckPut; rw [if_neg (by rw [k]; decide), if_neg (by rw [k]; decide), if_pos (of_eq_true s8), if_neg (by rw [k]; decide)]
        rw [e]
        (try simp (config := { maxSteps := 10000000 }) only [go_sem, seval, s_cfind_eq, f0, k, ho, hoX, wc, sX, s8]; repeat (simp (disch := omega) only [w64_d, ipos, ineg, dpos, dneg]; try simp (config := { maxSteps := 10000000 }) only [go_sem, seval, s_cfind_eq, f0, k, ho, hoX, wc, sX, s8]))
        (repeat' first | apply And.intro | (intro c; exact absurd c (by omega)) | (intro _; kernel_rfl) | kernel_rfl)
        exact fin_fp rfl (subH_app _ _) (hb _) (by simp)
      · have e : ckW c a sz w = { c with c := c.c.set a.h (c.c.getD a.h 0#64 &&& ~~~(4294967295#64 <<< a.up.toNat) ||| w <<< a.up.toNat &&& 4294967295#64 <<< a.up.toNat) } := by unfold ckW ckPut ckV; rw [if_neg (by rw [k]; decide), if_neg (by rw [k]; decide), if_neg (of_eq_false s8), if_neg (by rw [k]; decide), if_neg (by rw [k]; decide)]
        rw [e]
        (try simp (config := { maxSteps := 10000000 }) only [go_sem, seval, s_cfind_eq, f0, k, ho, hoX, wc, dc, sX, s8]; repeat (simp (disch := omega) only [w64_d, ipos, ineg, dpos, dneg]; try simp (config := { maxSteps := 10000000 }) only [go_sem, seval, s_cfind_eq, f0, k, ho, hoX, wc, dc, sX, s8]))
        (repeat' first | apply And.intro | (intro c; exact absurd c (by omega)) | (intro _; kernel_rfl) | kernel_rfl)
        exact fin_fp rfl (subH_app _ _) (hb _) (by simp)
    · simp only [ckP, k] at f0
      rcases Classical.propComplete (sz = 8) with s8 | s8
      · have e : ckW c a sz w = { c with t := w } := by unfold ckW ckPut; rw [if_neg (by rw [k]; decide), if_neg (by rw [k]; decide), if_pos (of_eq_true s8), if_pos k]
        rw [e]
        (try simp (config := { maxSteps := 10000000 }) only [go_sem, seval, s_cfind_eq, f0, k, ho, hoX, w1, sX, s8]; repeat (simp (disch := omega) only [w64_d, ipos, ineg, dpos, dneg]; try simp (config := { maxSteps := 10000000 }) only [go_sem, seval, s_cfind_eq, f0, k, ho, hoX, w1, sX, s8]))
        (repeat' first | apply And.intro | (intro c; exact absurd c (by omega)) | (intro _; kernel_rfl) | kernel_rfl)
        exact fin_fp rfl (subH_app _ _) (hb _) (by simp)
      · have e : ckW c a sz w = { c with t := c.t &&& ~~~(4294967295#64 <<< a.up.toNat) ||| w <<< a.up.toNat &&& 4294967295#64 <<< a.up.toNat } := by unfold ckW ckPut ckV; rw [if_neg (by rw [k]; decide), if_neg (by rw [k]; decide), if_neg (of_eq_false s8), if_pos k, if_pos k]
        rw [e]
        (try simp (config := { maxSteps := 10000000 }) only [go_sem, seval, s_cfind_eq, f0, k, ho, hoX, w1, d1, sX, s8]; repeat (simp (disch := omega) only [w64_d, ipos, ineg, dpos, dneg]; try simp (config := { maxSteps := 10000000 }) only [go_sem, seval, s_cfind_eq, f0, k, ho, hoX, w1, d1, sX, s8]))
        (repeat' first | apply And.intro | (intro c; exact absurd c (by omega)) | (intro _; kernel_rfl) | kernel_rfl)
        exact fin_fp rfl (subH_app _ _) (hb _) (by simp)
  · simp at h
end
end Go.Proofs.Ytfddaaplnnlfoaa
