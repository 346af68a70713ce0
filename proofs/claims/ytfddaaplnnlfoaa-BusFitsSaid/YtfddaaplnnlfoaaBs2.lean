/- Layer 18: a bus: lines, what is read and written: contracts. -/
import Derived.Test.YtfddaaplnnlfoaaBs1
namespace Go.Proofs.Ytfddaaplnnlfoaa
open Go.Am
set_option linter.unusedSimpArgs false
set_option linter.unusedVariables false
noncomputable section
variable {H : AH} {D : Bd}

/-! ### harts stay -/
theorem ckW_n (c : Ck) (a : Ca) (z : Int) (v : BitVec 64) : (ckW c a z v).n = c.n := by
  unfold ckW ckPut
  repeat' split
  all_goals rfl
theorem ckT_n (c : Ck) (n : Int) : (ckT c n).n = c.n := by
  unfold ckT
  split <;> rfl
theorem plR_n (c : Pk) (a : Pa) : (plR c a).n = c.n := by
  unfold plR
  split <;> rfl
theorem plW_n (c : Pk) (a : Pa) (v : BitVec 64) : (plW c a v).n = c.n := by
  unfold plW setl
  repeat' split
  all_goals rfl
theorem plWire_n (c : Pk) (s : Int) (on : Bool) : (plWire c s on).n = c.n := by
  unfold plWire setl
  repeat' split
  all_goals rfl
theorem BsOk.ck {b : Bs} (h : BsOk b) {c : Ck} (hc : CkOk c) (hn : c.n = b.c.n) : BsOk { b with c := c } := ⟨hc, h.k, h.n0, h.n1, hn.trans h.nc, h.nk⟩
theorem BsOk.pk {b : Bs} (h : BsOk b) {k : Pk} (hk : PkOk k) (hn : k.n = b.k.n) : BsOk { b with k := k } := ⟨h.c, hk, h.n0, h.n1, h.nc, hn.trans h.nk⟩
/-! ### what a hart is told -/
def bLn (b : Bs) (h : Int) : BitVec 64 :=
  if h < 0 ∨ b.n ≤ h then 0#64 else
    (if plLine b.k (2 * h + 1) = true then (if plLine b.k (2 * h) = true then ckL b.c h ||| 2048#64 else ckL b.c h) ||| 512#64 else (if plLine b.k (2 * h) = true then ckL b.c h ||| 2048#64 else ckL b.c h))
def q_blines (args : List AV) (H : AH) (v : AV) : Prop := (∀ h, args = [.c .nilp, .c (.i h)] → v = .c (.u 0#64)) ∧ ∀ D h, args = [.c (.p D.id 0 0), .c (.i h)] → BI H D → v = .c (.u (bLn D.b h))
def s_blines : List AV → AH → Option AV := frQ Try.prog [(34, .fq s_clines), (35, .fq s_pline)] 9 q_blines
set_option maxRecDepth 100000 in
set_option maxHeartbeats 2000000 in
theorem ok_blines : FpOk Try.prog 9 (fun args H => (s_blines args H).map fun v => (v, H)) := frQ_ok hmix (TabOk.cons (e := .fq s_clines) ok_clines (TabOk.cons (e := .fq s_pline) ok_pline TabOk.nil)) Try.func9 rfl Try.results9 Try.ntmps9 (by kernel_rfl) (by kernel_rfl)
theorem s_blines_nil (h : Int) : s_blines [.c .nilp, .c (.i h)] H = some (.c (.u 0#64)) := by
  have : ∃ v, s_blines [.c .nilp, .c (.i h)] H = some v ∧ q_blines [.c .nilp, .c (.i h)] H v := by
    unfold s_blines
    apply frQ_ex (v := .c (.u 0#64)) Try.func9 rfl Try.results9 Try.ntmps9 (by simp only [List.length_cons, List.length_nil]; decide)
    · exact fun _ _ => rfl
    · intro _ _
      (try simp (config := { maxSteps := 10000000 }) only [go_sem, seval]; repeat (simp (disch := omega) only [w64_d, ipos, ineg, dpos, dneg]; try simp (config := { maxSteps := 10000000 }) only [go_sem, seval]))
      exact subH_refl _
    · refine ⟨fun _ _ => rfl, fun E k he hE => ?_⟩
      simp at he
  obtain ⟨v, h1, h2⟩ := this
  rw [h1, h2.1 h rfl]
theorem s_blines_eq (hB : BI H D) (h : Int) : s_blines [.c (.p D.id 0 0), .c (.i h)] H = some (.c (.u (bLn D.b h))) := by
  have : ∃ v, s_blines [.c (.p D.id 0 0), .c (.i h)] H = some v ∧ q_blines [.c (.p D.id 0 0), .c (.i h)] H v := by
    unfold s_blines
    apply frQ_ex (v := .c (.u (bLn D.b h))) Try.func9 rfl Try.results9 Try.ntmps9 (by simp only [List.length_cons, List.length_nil]; decide)
    · exact fun _ _ => rfl
    · intro _ _
      have ho := hB.ho
      have ll := hB.l
      have d0 : (busC D.pid D.b).getD 0 .any = .p D.pid 0 0 := rfl
      have d1 : (busC D.pid D.b).getD 1 .any = .i D.b.n := rfl
      have n8 := hB.ok.n1
      have cl := s_clines_eq hB.ck (n := h)
      have pl := fun k => s_pline_eq hB.pk (k := k)
      by_cases h0 : h < 0
      · have e : bLn D.b h = 0#64 := if_pos (.inl h0)
        rw [e]
        (try simp (config := { maxSteps := 10000000 }) only [go_sem, seval, h0]; repeat (simp (disch := omega) only [w64_d, ipos, ineg, dpos, dneg]; try simp (config := { maxSteps := 10000000 }) only [go_sem, seval, h0]))
        exact subH_refl _
      by_cases h1 : D.b.n ≤ h
      · have e : bLn D.b h = 0#64 := if_pos (.inr h1)
        rw [e]
        (try simp (config := { maxSteps := 10000000 }) only [go_sem, seval, ho, ll, d1, h0, h1]; repeat (simp (disch := omega) only [w64_d, ipos, ineg, dpos, dneg]; try simp (config := { maxSteps := 10000000 }) only [go_sem, seval, ho, ll, d1, h0, h1]))
        exact subH_refl _
      have e1 : w64 (2 * h) = 2 * h := w64_d (by omega) (by omega)
      have e2 : w64 (2 * h + 1) = 2 * h + 1 := w64_d (by omega) (by omega)
      have pl1 := pl (2 * h)
      have pl2 := pl (2 * h + 1)
      have e : bLn D.b h = (if plLine D.b.k (2 * h + 1) = true then (if plLine D.b.k (2 * h) = true then ckL D.b.c h ||| 2048#64 else ckL D.b.c h) ||| 512#64 else (if plLine D.b.k (2 * h) = true then ckL D.b.c h ||| 2048#64 else ckL D.b.c h)) := if_neg (by omega)
      rw [e]
      cases h2 : plLine D.b.k (2 * h)
      all_goals rw [h2] at pl1
      all_goals cases h3 : plLine D.b.k (2 * h + 1)
      all_goals rw [h3] at pl2
      all_goals (try simp (config := { maxSteps := 10000000 }) only [go_sem, seval, ho, ll, d0, d1, h0, h1, e1, e2, cl, pl1, pl2, Bool.false_eq_true, if_true, if_false]; repeat (simp (disch := omega) only [w64_d, ipos, ineg, dpos, dneg]; try simp (config := { maxSteps := 10000000 }) only [go_sem, seval, ho, ll, d0, d1, h0, h1, e1, e2, cl, pl1, pl2, Bool.false_eq_true, if_true, if_false]))
      all_goals exact subH_refl _
    · refine ⟨fun _ he => by simp at he, fun E k he hE => ?_⟩
      simp only [List.cons.injEq, AV.c.injEq, Sc.p.injEq, Sc.i.injEq, and_true] at he
      obtain ⟨e1, rfl⟩ := he
      rw [hB.uniq hE e1]
  obtain ⟨v, h1, h2⟩ := this
  rw [h1, h2.2 D h rfl hB]
end
end Go.Proofs.Ytfddaaplnnlfoaa
