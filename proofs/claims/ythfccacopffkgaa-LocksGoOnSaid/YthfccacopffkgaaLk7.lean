/- Layer 12: who is stuck: contracts. -/
import Derived.Test.YthfccacopffkgaaLk6
namespace Go.Proofs.Ythfccacopffkgaa
open Go.Am
set_option linter.unusedSimpArgs false
set_option linter.unusedVariables false
noncomputable section
set_option maxRecDepth 100000

section
variable {H : AH} {D : Ld}
/-! ### does one wait at a lock whose holder is one of some? -/
def wtP (S : LS) (B : List Bool) (w : Int) : Bool := S.any fun y => decide (0 ≤ y.1) && (B.getD y.1.toNat false && decide (w ∈ y.2))
theorem wt_true (h : LI H D) {B : List Bool} {w : Int} {e : En} (he : e ∈ D.es) (hb : B.getD e.h.toNat false = true) (hw : w ∈ e.q) : wtP D.S B w = true := by
  have ok := h.ok e he
  have hf : fdK D.es e.k = some e := by
    cases hf : fdK D.es e.k with
    | none => exact absurd rfl (fdK_none hf e he)
    | some f =>
      obtain ⟨h1, h2⟩ := fdK_some hf
      have := h.kd
      rw [show f = e from by
        obtain ⟨i, hi, rfl⟩ := List.mem_iff_getElem.1 h1
        obtain ⟨j, hj, rfl⟩ := List.mem_iff_getElem.1 he
        have := (List.getElem_inj (i := i) (j := j) (h₀ := by simpa using hi) (h₁ := by simpa using hj) h.kd).1 (by simpa using h2)
        subst this; rfl]
  obtain ⟨a0, an, hat, h0, h8⟩ := fd_at h hf
  unfold wtP
  rw [List.any_eq_true]
  have hlt : e.k.toNat < D.S.length := by have := S_lenI h; omega
  refine ⟨D.S[e.k.toNat], List.getElem_mem hlt, ?_⟩
  have : D.S[e.k.toNat] = (e.h, e.q) := by
    unfold atS at hat
    rw [List.getD_eq_getElem?_getD, List.getElem?_eq_getElem hlt] at hat
    exact hat
  rw [this]
  simp only [hb, Bool.true_and, Bool.and_eq_true, decide_eq_true_eq]
  exact ⟨h0, hw⟩
theorem wt_false (h : LI H D) {B : List Bool} {w : Int} (hn : ∀ e ∈ D.es, B.getD e.h.toNat false = true → w ∉ e.q) : wtP D.S B w = false := by
  unfold wtP
  rw [List.any_eq_false]
  intro y hy
  obtain ⟨k, hk, rfl⟩ := List.mem_iff_getElem.1 hy
  have hs := fd_rng h hk
  rw [List.getElem?_eq_getElem hk, Option.some.injEq] at hs
  rw [hs]
  cases hf : fdK D.es (k : Int) with
  | none => simp [enS]
  | some e =>
    have := hn e (fdK_some hf).1
    simp only [enS, Bool.and_eq_true, decide_eq_true_eq, not_and]
    exact fun _ h1 h2 => this h1 (of_decide_eq_true h2)
def q_lstk1 (args : List AV) (H : AH) (v : AV) : Prop := ∀ D B w bx ar, args = [.c (.i w), .c (.p bx 0 0), .c (.p ar 0 0)] → LI H D → hg H bx = .own [.p D.p 0 0] → hg H ar = .own (B.map Sc.b) → B.length = 8 → v = .c (.b (wtP D.S B w))
def s_lstk1 : List AV → AH → Option AV := frQ Try.prog [(37, .fq s_lcon)] 36 q_lstk1
set_option maxRecDepth 100000 in
set_option maxHeartbeats 2000000 in
theorem ok_lstk1 : FpOk Try.prog 36 (fun args H => (s_lstk1 args H).map fun v => (v, H)) := frQ_ok hmix (TabOk.cons (e := .fq s_lcon) ok_lcon TabOk.nil) Try.func36 rfl Try.results36 Try.ntmps36 (by kernel_rfl) (by kernel_rfl)
theorem b_inj {A B : List Bool} (h : A.map Sc.b = B.map Sc.b) : A = B := (List.map_inj_right (f := Sc.b) (fun x y e => by simpa using e)).1 h
theorem ent_find (h : LI H D) {e : En} (he : e ∈ D.es) : ((D.es.map enM).find? fun x => x.1 == e.b) = some (enM e) := by
  have hb := h.bd
  generalize D.es = l at he hb
  induction l with
  | nil => simp at he
  | cons a l ih =>
    rw [List.map_cons, List.find?_cons]
    rcases List.mem_cons.1 he with rfl | hm
    · simp [enM]
    · rw [List.map_cons, List.nodup_cons] at hb
      have : (a.b == e.b) = false := by
        rw [beq_eq_false_iff_ne]
        exact fun c => hb.1 (List.mem_map.2 ⟨e, hm, c.symm⟩)
      show (match (a.b == e.b) with | true => some (enM a) | false => _) = _
      rw [this]
      exact ih hm hb.2
def uns (es : List En) (seen : List Nat) : Nat := (es.filter fun e => !seen.contains e.b).length
theorem uns_lt {es : List En} {seen : List Nat} {e : En} (he : e ∈ es) (hs : e.b ∉ seen) : uns es (seen ++ [e.b]) < uns es seen := by
  unfold uns
  refine filter_lt (fun x => !seen.contains x.b) (fun x => !(seen ++ [e.b]).contains x.b) ?_ e ?_ ?_ es he
  · intro x hx
    simp at hx
    simpa using hx.1
  · simpa using hs
  · simp
theorem uns_0 {es : List En} {seen : List Nat} (h : ((es.map enM).filter fun e => !seen.contains e.1) = []) : ∀ e ∈ es, e.b ∈ seen := by
  intro e he
  have := List.filter_eq_nil_iff.1 h (enM e) (List.mem_map.2 ⟨e, he, rfl⟩)
  simpa [enM] using this
theorem s_lstk1_eq (h : LI H D) {B : List Bool} {w : Int} {bx ar : Nat} (hbx : hg H bx = .own [.p D.p 0 0]) (har : hg H ar = .own (B.map Sc.b)) (hB : B.length = 8) : s_lstk1 [.c (.i w), .c (.p bx 0 0), .c (.p ar 0 0)] H = some (.c (.b (wtP D.S B w))) := by
  have : ∃ v, s_lstk1 [.c (.i w), .c (.p bx 0 0), .c (.p ar 0 0)] H = some v ∧ q_lstk1 [.c (.i w), .c (.p bx 0 0), .c (.p ar 0 0)] H v := by
    have lbx : bx < H.length := hg_lt (by rw [hbx]; rfl)
    have lar : ar < H.length := hg_lt (by rw [har]; rfl)
    have hbX : ∀ X, hg (H ++ X) bx = .own [.p D.p 0 0] := fun X => by rw [hg_lt' lbx, hbx]
    have haX : ∀ X, hg (H ++ X) ar = .own (B.map Sc.b) := fun X => by rw [hg_lt' lar, har]
    have hp := h.hp
    have hm := h.hm
    have hpX := fun X => (h.app X).hp
    have hmX := fun X => (h.app X).hm
    have lm := h.lt (show D.m ∈ D.ids by simp [Ld.ids])
    unfold s_lstk1
    apply frQ_ex (v := .c (.b (wtP D.S B w))) Try.func36 rfl Try.results36 Try.ntmps36 (by simp only [List.length_cons, List.length_nil]; decide)
    · exact fun _ _ => rfl
    · intro ha hH
      have bH : ∀ s l, belH (H ++ [.iter D.m D.clk s l]) = true := fun s l => belH_app hH (by simp only [List.mem_singleton, forall_eq, AObj.scs, List.all_cons, List.all_nil, Sc.bel, Bool.and_true, decide_eq_true_eq, List.length_append, List.length_cons, List.length_nil]; omega)
      (try simp (config := { maxSteps := 10000000 }) only [go_sem, seval, hbx, hp, hm]; repeat (simp (disch := omega) only [w64_d, ipos, ineg, dpos, dneg]; try simp (config := { maxSteps := 10000000 }) only [go_sem, seval, hbx, hp, hm]))
      rw [arun_loop]
      refine ⟨{s : List Nat // ∀ e ∈ D.es, e.b ∈ s → B.getD e.h.toNat false = true → w ∉ e.q}, fun s => ([(0, .c (.i w)), (2, .c (.p ar 0 0)), (11, .c (.p H.length 0 0))], H ++ [.iter D.m D.clk s.1 D.clk]), fun s => uns D.es s.1, ⟨[], fun e _ hs => by simp at hs⟩, ?_, ?_⟩
      · exact Wk.wk (by simp [lo]) (by simp [Am.get]) (by simp [AV.bel, Sc.bel]; omega) (subH_refl _) (bH _ _)
      · rintro ⟨s, hs⟩
        (try simp (config := { maxSteps := 10000000 }) only [go_sem, seval]; repeat (simp (disch := omega) only [w64_d, ipos, ineg, dpos, dneg]; try simp (config := { maxSteps := 10000000 }) only [go_sem, seval]))
        refine nxt_next (es := D.es.map enM) (id := H.length) (m := D.m) (since := D.clk) (last := D.clk) (clk := D.clk) (seen := s) (by simp [ev, Am.get]) (by rw [hg_len]; rfl) (hmX _) ?_ (Nat.le_refl _) ?_ ?_
        · rw [List.all_map]
          exact List.all_eq_true.2 fun e he => decide_eq_true (h.ok e he).b
        · intro h0
          have hu := uns_0 h0
          rw [wt_false h (fun e he => hs e he (hu e he))]
          (try simp (config := { maxSteps := 10000000 }) only [go_sem, seval]; repeat (simp (disch := omega) only [w64_d, ipos, ineg, dpos, dneg]; try simp (config := { maxSteps := 10000000 }) only [go_sem, seval]))
          exact subH_app _ _
        · intro e' he' hne
          obtain ⟨e, he, rfl⟩ := List.mem_map.1 he'
          have hne : e.b ∉ s := hne
          have ef := ent_find h he
          have gl : (s ++ [e.b]).getLast? = some e.b := by simp
          have ok := h.ok e he
          obtain ⟨hl, hx⟩ := h.he e he
          have hlX := fun X => ((h.app X).he e he).1
          have b0 : e.h.toNat + 1 ≤ (B.map Sc.b).length := by rw [List.length_map, hB]; have := ok.h8; have := ok.h0; omega
          have b1 : (B.map Sc.b).getD e.h.toNat .any = .b (B.getD e.h.toNat false) := by
            rw [List.length_map] at b0
            rw [List.getD_eq_getElem?_getD, List.getElem?_map, List.getD_eq_getElem?_getD, List.getElem?_eq_getElem (by omega)]; rfl
          have e0 := ok.h0
          have e8 := ok.h8
          have hcn := fun X => s_lcon_of (k := w) (isx_sl (isx_app X hx)) (by have := h.qlen he; omega)
          have go : (B.getD e.h.toNat false = true → w ∉ e.q) → ∀ fr', (∀ p ∈ [(0, AV.c (.i w)), (2, .c (.p ar 0 0)), (11, .c (.p H.length 0 0))], Am.get fr' p.1 = p.2) → ∃ j : {s : List Nat // ∀ e ∈ D.es, e.b ∈ s → B.getD e.h.toNat false = true → w ∉ e.q}, uns D.es j.1 < uns D.es s ∧ Wk (lo [(1000000, Ent.lo H.length), (37, .fq s_lcon)]) fr' (H ++ [.iter D.m D.clk (s ++ [e.b]) D.clk]) ([(0, .c (.i w)), (2, .c (.p ar 0 0)), (11, .c (.p H.length 0 0))], H ++ [.iter D.m D.clk j.1 D.clk]) := by
            intro hq fr' hf
            refine ⟨⟨s ++ [e.b], fun x hx hxs => ?_⟩, uns_lt he hne, ?_⟩
            · rcases List.mem_append.1 hxs with g | g
              · exact hs x hx g
              · rw [List.mem_singleton] at g
                have : x = e := by
                  obtain ⟨i, hi, rfl⟩ := List.mem_iff_getElem.1 hx
                  obtain ⟨j, hj, rfl⟩ := List.mem_iff_getElem.1 he
                  have := (List.getElem_inj (i := i) (j := j) (h₀ := by simpa using hi) (h₁ := by simpa using hj) h.bd).1 (by simpa using g)
                  subst this; rfl
                rw [this]; exact hq
            · exact Wk.wk (by simp [lo]) hf (by simp [AV.bel, Sc.bel]; omega) (subH_refl _) (bH _ _)
          cases hb : B.getD e.h.toNat false with
          | false =>
            rw [hb] at b1 go
            (try simp (config := { maxSteps := 10000000 }) only [go_sem, seval, enM, ef, gl, hmX, hlX, haX, b0, b1, e0, e8]; repeat (simp (disch := omega) only [w64_d, ipos, ineg, dpos, dneg]; try simp (config := { maxSteps := 10000000 }) only [go_sem, seval, enM, ef, gl, hmX, hlX, haX, b0, b1, e0, e8]))
            exact go (by simp) _ (by simp [Am.get])
          | true =>
            rw [hb] at b1 go
            by_cases hw : w ∈ e.q
            · rw [decide_eq_true hw] at hcn
              (try simp (config := { maxSteps := 10000000 }) only [go_sem, seval, enM, ef, gl, hmX, hlX, haX, b0, b1, e0, e8, hcn]; repeat (simp (disch := omega) only [w64_d, ipos, ineg, dpos, dneg]; try simp (config := { maxSteps := 10000000 }) only [go_sem, seval, enM, ef, gl, hmX, hlX, haX, b0, b1, e0, e8, hcn]))
              rw [wt_true h he hb hw]
              exact ⟨rfl, subH_app _ _⟩
            · rw [decide_eq_false hw] at hcn
              (try simp (config := { maxSteps := 10000000 }) only [go_sem, seval, enM, ef, gl, hmX, hlX, haX, b0, b1, e0, e8, hcn]; repeat (simp (disch := omega) only [w64_d, ipos, ineg, dpos, dneg]; try simp (config := { maxSteps := 10000000 }) only [go_sem, seval, enM, ef, gl, hmX, hlX, haX, b0, b1, e0, e8, hcn]))
              exact go (fun _ => hw) _ (by simp [Am.get])
    · intro E C x b a he hE h1 h2 h3
      simp only [List.cons.injEq, AV.c.injEq, Sc.p.injEq, Sc.i.injEq, and_true] at he
      obtain ⟨rfl, rfl, rfl⟩ := he
      rw [hbx] at h1
      simp only [AObj.own.injEq, List.cons.injEq, Sc.p.injEq, and_true] at h1
      rw [har] at h2
      simp only [AObj.own.injEq] at h2
      rw [b_inj h2, h.uniq hE h1]
  obtain ⟨v, h1, h2⟩ := this
  rw [h1, h2 D B w bx ar rfl h hbx har hB]
end
end
end Go.Proofs.Ythfccacopffkgaa
