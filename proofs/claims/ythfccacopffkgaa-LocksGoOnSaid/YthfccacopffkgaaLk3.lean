/- Layer 12: locks that are asked, taken and given back: contracts. -/
import Derived.Test.YthfccacopffkgaaLk2
namespace Go.Proofs.Ythfccacopffkgaa
open Go.Am
set_option linter.unusedSimpArgs false
set_option linter.unusedVariables false
noncomputable section
set_option maxRecDepth 100000

theorem sT_mapL : szT Try.prog 63 = 1 := by kernel_rfl
theorem dT_mapL : dT Try.prog 63 = .other := by kernel_rfl
theorem op_makeMap0 {t : Nat} : opnds (.makeMap t none) = [] := rfl
theorem op_makeMap1 {t : Nat} {x : Operand} : opnds (.makeMap t (some x)) = [x] := rfl
theorem op_lookup {t : Nat} {x y : Operand} {q : Bool} : opnds (.lookup t x y q) = [x, y] := rfl
theorem op_mapUpdate {t : Nat} {x y z : Operand} : opnds (.mapUpdate t x y z) = [x, y, z] := rfl
attribute [go_sem] sT_mapL dT_mapL op_makeMap0 op_makeMap1 op_lookup op_mapUpdate AV.flat1
section
variable {H : AH} {D : Ld}
/-! ### is there that one, and that lock? -/
def s_lthere (args : List AV) (H : AH) : Option AV :=
  match args with
  | [.c .nilp, .c (.i _), .c (.i _)] => some (.c (.b false))
  | [.c (.p id 0 0), .c (.i w), .c (.i a)] =>
    match hg H id with
    | .own [.i n, .mp _] => some (.c (.b (decide (0 ≤ w) && decide (w < 8) && decide (0 ≤ a) && decide (a < n))))
    | _ => none
  | _ => none
set_option maxRecDepth 100000 in
set_option maxHeartbeats 2000000 in
theorem ok_lthere : FpOk Try.prog 38 (fun args H => (s_lthere args H).map fun v => (v, H)) := by
  refine fq_ok (s := s_lthere) (tab := []) hmix TabOk.nil Try.func38 rfl Try.results38 Try.ntmps38 (by kernel_rfl) (by kernel_rfl) ?_
  intro args H v h hargs hH
  unfold s_lthere at h
  split at h
  · rename_i w a
    simp only [Option.some.injEq] at h
    subst h
    refine ⟨by simp only [List.length_cons, List.length_nil]; decide, rfl, ?_⟩
    (try simp (config := { maxSteps := 10000000 }) only [go_sem, seval]; repeat (simp (disch := omega) only [w64_d, ipos, ineg, dpos, dneg]; try simp (config := { maxSteps := 10000000 }) only [go_sem, seval]))
    exact subH_refl _
  · rename_i id w a
    split at h
    · rename_i n m ho
      simp only [Option.some.injEq] at h
      subst h
      refine ⟨by simp only [List.length_cons, List.length_nil]; decide, rfl, ?_⟩
      by_cases c1 : 0 ≤ w
      · by_cases c2 : w < 8
        · by_cases c3 : 0 ≤ a
          · (try simp (config := { maxSteps := 10000000 }) only [go_sem, seval, c1, c2, c3, ho]; repeat (simp (disch := omega) only [w64_d, ipos, ineg, dpos, dneg]; try simp (config := { maxSteps := 10000000 }) only [go_sem, seval, c1, c2, c3, ho]))
            exact subH_refl _
          · (try simp (config := { maxSteps := 10000000 }) only [go_sem, seval, c1, c2, c3, ho]; repeat (simp (disch := omega) only [w64_d, ipos, ineg, dpos, dneg]; try simp (config := { maxSteps := 10000000 }) only [go_sem, seval, c1, c2, c3, ho]))
            exact subH_refl _
        · (try simp (config := { maxSteps := 10000000 }) only [go_sem, seval, c1, c2, ho]; repeat (simp (disch := omega) only [w64_d, ipos, ineg, dpos, dneg]; try simp (config := { maxSteps := 10000000 }) only [go_sem, seval, c1, c2, ho]))
          exact subH_refl _
      · (try simp (config := { maxSteps := 10000000 }) only [go_sem, seval, c1, ho]; repeat (simp (disch := omega) only [w64_d, ipos, ineg, dpos, dneg]; try simp (config := { maxSteps := 10000000 }) only [go_sem, seval, c1, ho]))
        exact subH_refl _
    · simp at h
  · simp at h
theorem s_lthere_nil {w a : Int} : s_lthere [.c .nilp, .c (.i w), .c (.i a)] H = some (.c (.b false)) := rfl
theorem s_lthere_eq (h : LI H D) {w a : Int} : s_lthere [.c (.p D.p 0 0), .c (.i w), .c (.i a)] H = some (.c (.b (rgtS D.S w a))) := by
  simp only [s_lthere, h.hp, rgtS, S_lenI h]
/-! ### a lock that isn't free -/
def gE (D : Ld) (a : Int) : AV :=
  match fdK D.es a with
  | some e => .c (.p e.l 0 0)
  | none => .c .nilp
def q_lget (args : List AV) (H : AH) (v : AV) : Prop := (∀ a, args = [.c .nilp, .c (.i a)] → v = .c .nilp) ∧ ∀ D a, args = [.c (.p D.p 0 0), .c (.i a)] → LI H D → v = gE D a
def s_lget : List AV → AH → Option AV := frQ Try.prog [] 44 q_lget
set_option maxRecDepth 100000 in
set_option maxHeartbeats 2000000 in
theorem ok_lget : FpOk Try.prog 44 (fun args H => (s_lget args H).map fun v => (v, H)) := frQ_ok hmix TabOk.nil Try.func44 rfl Try.results44 Try.ntmps44 (by kernel_rfl) (by kernel_rfl)
theorem s_lget_nil {a : Int} : s_lget [.c .nilp, .c (.i a)] H = some (.c .nilp) := by
  have : ∃ v, s_lget [.c .nilp, .c (.i a)] H = some v ∧ q_lget [.c .nilp, .c (.i a)] H v := by
    unfold s_lget
    apply frQ_ex (v := .c .nilp) Try.func44 rfl Try.results44 Try.ntmps44 (by simp only [List.length_cons, List.length_nil]; decide)
    · exact fun _ _ => rfl
    · intro _ _
      (try simp (config := { maxSteps := 10000000 }) only [go_sem, seval]; repeat (simp (disch := omega) only [w64_d, ipos, ineg, dpos, dneg]; try simp (config := { maxSteps := 10000000 }) only [go_sem, seval]))
      exact subH_refl _
    · exact ⟨fun _ _ => rfl, fun E k he hE => by simp at he⟩
  obtain ⟨v, h1, h2⟩ := this
  rw [h1, h2.1 a rfl]
theorem s_lget_eq (h : LI H D) {a : Int} : s_lget [.c (.p D.p 0 0), .c (.i a)] H = some (gE D a) := by
  have : ∃ v, s_lget [.c (.p D.p 0 0), .c (.i a)] H = some v ∧ q_lget [.c (.p D.p 0 0), .c (.i a)] H v := by
    have hp := h.hp
    have hm := h.hm
    have fA := findA_en (P := Try.prog) (kt := 3) (by kernel_rfl) a D.es 0
    unfold s_lget
    apply frQ_ex (v := gE D a) Try.func44 rfl Try.results44 Try.ntmps44 (by simp only [List.length_cons, List.length_nil]; decide)
    · intro _ _
      unfold gE
      cases hf : fdK D.es a with
      | none => rfl
      | some e =>
        have := h.lt (mem_eids (fdK_some hf).1 (show e.l ∈ eids e by simp [eids]))
        simpa [AV.bel, Sc.bel] using this
    · intro _ _
      unfold gE
      rcases h.find a with ⟨f1, f2⟩ | ⟨A, e, B, f1, f2, f3, f4, f5⟩
      · rw [f2] at fA
        (try simp (config := { maxSteps := 10000000 }) only [go_sem, seval, hp, hm, fA, f1]; repeat (simp (disch := omega) only [w64_d, ipos, ineg, dpos, dneg]; try simp (config := { maxSteps := 10000000 }) only [go_sem, seval, hp, hm, fA, f1]))
        exact subH_refl _
      · rw [f5] at fA
        (try simp (config := { maxSteps := 10000000 }) only [go_sem, seval, hp, hm, fA, f3]; repeat (simp (disch := omega) only [w64_d, ipos, ineg, dpos, dneg]; try simp (config := { maxSteps := 10000000 }) only [go_sem, seval, hp, hm, fA, f3]))
        exact subH_refl _
    · refine ⟨fun _ he => by simp at he, fun E k he hE => ?_⟩
      simp only [List.cons.injEq, AV.c.injEq, Sc.p.injEq, Sc.i.injEq, and_true] at he
      obtain ⟨e1, rfl⟩ := he
      rw [h.uniq hE e1]
  obtain ⟨v, h1, h2⟩ := this
  rw [h1, h2.2 D a rfl h]
/-! ### who holds a lock, and waits at it -/
def hoV (S : LS) (a : Int) : AV := if 0 ≤ a ∧ a < S.length ∧ 0 ≤ (atS S a).1 then .t [.c (.i (atS S a).1), .c (.b true)] else .t [.c (.i 0), .c (.b false)]
theorem fd_out (h : LI H D) {a : Int} (ha : ¬ (0 ≤ a ∧ a < D.n)) : fdK D.es a = none := by
  cases hf : fdK D.es a with
  | none => rfl
  | some e =>
    obtain ⟨h1, h2⟩ := fdK_some hf
    have := h.ok e h1
    have a1 := this.k0
    have a2 := this.kn
    omega
theorem fd_at (h : LI H D) {a : Int} {e : En} (hf : fdK D.es a = some e) : 0 ≤ a ∧ a < D.n ∧ atS D.S a = (e.h, e.q) ∧ 0 ≤ e.h ∧ e.h < 8 := by
  obtain ⟨h1, h2⟩ := fdK_some hf
  have o := h.ok e h1
  have a1 := o.k0
  have a2 := o.kn
  have a3 := S_at h (a := a) (by omega) (by omega)
  rw [hf] at a3
  exact ⟨by omega, by omega, a3, o.h0, o.h8⟩
theorem fd_free (h : LI H D) {a : Int} (h0 : 0 ≤ a) (hn : a < D.n) (hf : fdK D.es a = none) : atS D.S a = (-1, []) := by
  rw [S_at h h0 hn, hf]; rfl
theorem hoV_n (h : LI H D) {a : Int} (hf : fdK D.es a = none) : hoV D.S a = .t [.c (.i 0), .c (.b false)] := by
  unfold hoV
  rw [if_neg]
  rintro ⟨h0, hn, hh⟩
  rw [S_lenI h] at hn
  rw [fd_free h h0 hn hf] at hh
  simp at hh
theorem hoV_s (h : LI H D) {a : Int} {e : En} (hf : fdK D.es a = some e) : hoV D.S a = .t [.c (.i e.h), .c (.b true)] := by
  obtain ⟨h1, h2, h3, h4, _⟩ := fd_at h hf
  unfold hoV
  rw [h3, if_pos ⟨h1, by rw [S_lenI h]; exact h2, h4⟩]
def q_lholder (args : List AV) (H : AH) (v : AV) : Prop := (∀ a, args = [.c .nilp, .c (.i a)] → v = .t [.c (.i 0), .c (.b false)]) ∧ ∀ D a, args = [.c (.p D.p 0 0), .c (.i a)] → LI H D → v = hoV D.S a
def s_lholder : List AV → AH → Option AV := frQ Try.prog [(44, .fq s_lget)] 28 q_lholder
set_option maxRecDepth 100000 in
set_option maxHeartbeats 2000000 in
theorem ok_lholder : FpOk Try.prog 28 (fun args H => (s_lholder args H).map fun v => (v, H)) := frQ_ok hmix (TabOk.cons (e := .fq s_lget) ok_lget TabOk.nil) Try.func28 rfl Try.results28 Try.ntmps28 (by kernel_rfl) (by kernel_rfl)
theorem s_lholder_nil {a : Int} : s_lholder [.c .nilp, .c (.i a)] H = some (.t [.c (.i 0), .c (.b false)]) := by
  have : ∃ v, s_lholder [.c .nilp, .c (.i a)] H = some v ∧ q_lholder [.c .nilp, .c (.i a)] H v := by
    have g := s_lget_nil (H := H) (a := a)
    unfold s_lholder
    apply frQ_ex (v := .t [.c (.i 0), .c (.b false)]) Try.func28 rfl Try.results28 Try.ntmps28 (by simp only [List.length_cons, List.length_nil]; decide)
    · exact fun _ _ => rfl
    · intro _ _
      (try simp (config := { maxSteps := 10000000 }) only [go_sem, seval, g]; repeat (simp (disch := omega) only [w64_d, ipos, ineg, dpos, dneg]; try simp (config := { maxSteps := 10000000 }) only [go_sem, seval, g]))
      exact subH_refl _
    · exact ⟨fun _ _ => rfl, fun E k he hE => by simp at he⟩
  obtain ⟨v, h1, h2⟩ := this
  rw [h1, h2.1 a rfl]
theorem s_lholder_eq (h : LI H D) {a : Int} : s_lholder [.c (.p D.p 0 0), .c (.i a)] H = some (hoV D.S a) := by
  have : ∃ v, s_lholder [.c (.p D.p 0 0), .c (.i a)] H = some v ∧ q_lholder [.c (.p D.p 0 0), .c (.i a)] H v := by
    have g := s_lget_eq h (a := a)
    unfold s_lholder
    apply frQ_ex (v := hoV D.S a) Try.func28 rfl Try.results28 Try.ntmps28 (by simp only [List.length_cons, List.length_nil]; decide)
    · intro _ _
      unfold hoV
      split <;> rfl
    · intro _ _
      unfold gE at g
      cases hf : fdK D.es a with
      | none =>
        rw [hf] at g
        (try simp (config := { maxSteps := 10000000 }) only [go_sem, seval, g, hoV_n h hf]; repeat (simp (disch := omega) only [w64_d, ipos, ineg, dpos, dneg]; try simp (config := { maxSteps := 10000000 }) only [go_sem, seval, g, hoV_n h hf]))
        exact subH_refl _
      | some e =>
        rw [hf] at g
        have hl := (h.he e (fdK_some hf).1).1
        (try simp (config := { maxSteps := 10000000 }) only [go_sem, seval, g, hl, hoV_s h hf]; repeat (simp (disch := omega) only [w64_d, ipos, ineg, dpos, dneg]; try simp (config := { maxSteps := 10000000 }) only [go_sem, seval, g, hl, hoV_s h hf]))
        exact subH_refl _
    · refine ⟨fun _ he => by simp at he, fun E k he hE => ?_⟩
      simp only [List.cons.injEq, AV.c.injEq, Sc.p.injEq, Sc.i.injEq, and_true] at he
      obtain ⟨e1, rfl⟩ := he
      rw [h.uniq hE e1]
  obtain ⟨v, h1, h2⟩ := this
  rw [h1, h2.2 D a rfl h]
def quS (S : LS) (a : Int) : List Int := if 0 ≤ a ∧ a < S.length then (atS S a).2 else []
theorem quS_n (h : LI H D) {a : Int} (hf : fdK D.es a = none) : quS D.S a = [] := by
  unfold quS
  split
  · rename_i hc
    rw [S_lenI h] at hc
    rw [fd_free h hc.1 hc.2 hf]
  · rfl
theorem quS_s (h : LI H D) {a : Int} {e : En} (hf : fdK D.es a = some e) : quS D.S a = e.q := by
  obtain ⟨h1, h2, h3, h4, _⟩ := fd_at h hf
  unfold quS
  rw [h3, if_pos ⟨h1, by rw [S_lenI h]; exact h2⟩]
/-- a list of its own -/
structure Own1 (H H1 : AH) (v : AV) (L : List Int) : Prop where
  ex : ∃ x, v = .c x ∧ isx H1 x L ∧ ∀ i, sidI x = some i → H.length ≤ i
  old : ∀ i, i < H.length → hg H1 i = hg H i
theorem Own1.nils {H : AH} : Own1 H H (.c .nils) [] := ⟨⟨.nils, rfl, .inl ⟨rfl, rfl⟩, fun i hi => by simp [sidI] at hi⟩, fun _ _ => rfl⟩
theorem Own1.vec {H : AH} {n : Nat} {L : List Int} (hn : n = L.length) : Own1 H (H ++ [.vec 1 (L.flatMap encI)]) (.c (.sl H.length 0 n n)) L := by
  subst hn
  exact ⟨⟨_, rfl, .inr ⟨H.length, rfl, by rw [hg_len]; rfl⟩, fun i hi => by simp only [sidI, Option.some.injEq] at hi; omega⟩, fun i hi => hg_lt' hi⟩
def q_lqueue (args : List AV) (H : AH) (v : AV) (H1 : AH) : Prop := (∀ a, args = [.c .nilp, .c (.i a)] → v = .c .nils ∧ H1 = H) ∧ ∀ D a, args = [.c (.p D.p 0 0), .c (.i a)] → LI H D → Own1 H H1 v (quS D.S a)
def s_lqueue : List AV → AH → Option (AV × AH) := frS Try.prog [(44, .fq s_lget), (32, .fp s_lclone)] 30 q_lqueue
set_option maxRecDepth 100000 in
set_option maxHeartbeats 2000000 in
theorem ok_lqueue : FpOk Try.prog 30 s_lqueue := frS_ok hmix (TabOk.cons (e := .fq s_lget) ok_lget (TabOk.cons (e := .fp s_lclone) ok_lclone TabOk.nil)) Try.func30 rfl Try.results30 Try.ntmps30 (by kernel_rfl) (by kernel_rfl)
theorem s_lqueue_nil {a : Int} : s_lqueue [.c .nilp, .c (.i a)] H = some (.c .nils, H) := by
  have : ∃ v H1, s_lqueue [.c .nilp, .c (.i a)] H = some (v, H1) ∧ H.length ≤ H1.length ∧ q_lqueue [.c .nilp, .c (.i a)] H v H1 := by
    have g := s_lget_nil (H := H) (a := a)
    unfold s_lqueue
    apply frS_ex (v := .c .nils) Try.func30 rfl Try.results30 Try.ntmps30 (by simp only [List.length_cons, List.length_nil]; decide)
    · intro _ _
      (try simp (config := { maxSteps := 10000000 }) only [go_sem, seval, g]; repeat (simp (disch := omega) only [w64_d, ipos, ineg, dpos, dneg]; try simp (config := { maxSteps := 10000000 }) only [go_sem, seval, g]))
      exact fin_same
    · exact Nat.le_refl _
    · exact ⟨fun _ _ => ⟨rfl, rfl⟩, fun E k he hE => by simp at he⟩
  obtain ⟨v, H1, h1, _, h2⟩ := this
  obtain ⟨rfl, rfl⟩ := h2.1 a rfl
  exact h1
theorem s_lqueue_ex (h : LI H D) (a : Int) : ∃ v H1, s_lqueue [.c (.p D.p 0 0), .c (.i a)] H = some (v, H1) ∧ H.length ≤ H1.length ∧ Own1 H H1 v (quS D.S a) := by
  have : ∃ v H1, s_lqueue [.c (.p D.p 0 0), .c (.i a)] H = some (v, H1) ∧ H.length ≤ H1.length ∧ q_lqueue [.c (.p D.p 0 0), .c (.i a)] H v H1 := by
    have g := s_lget_eq h (a := a)
    have post : ∀ {v H1}, Own1 H H1 v (quS D.S a) → q_lqueue [.c (.p D.p 0 0), .c (.i a)] H v H1 := by
      intro v H1 ho
      refine ⟨fun _ he => by simp at he, fun E k he hE => ?_⟩
      simp only [List.cons.injEq, AV.c.injEq, Sc.p.injEq, Sc.i.injEq, and_true] at he
      obtain ⟨e1, rfl⟩ := he
      rw [← h.uniq hE e1]
      exact ho
    unfold gE at g
    cases hf : fdK D.es a with
    | none =>
      rw [hf] at g
      unfold s_lqueue
      apply frS_ex (v := .c .nils) Try.func30 rfl Try.results30 Try.ntmps30 (by simp only [List.length_cons, List.length_nil]; decide)
      · intro _ _
        (try simp (config := { maxSteps := 10000000 }) only [go_sem, seval, g]; repeat (simp (disch := omega) only [w64_d, ipos, ineg, dpos, dneg]; try simp (config := { maxSteps := 10000000 }) only [go_sem, seval, g]))
        exact fin_same
      · exact Nat.le_refl _
      · exact post (by rw [quS_n h hf]; exact Own1.nils)
    | some e =>
      rw [hf] at g
      have hem := (fdK_some hf).1
      have hl := (h.he e hem).1
      have hc := s_lclone_eq (isx_clone (h.he e hem).2 (by have := h.qlen hem; omega))
      unfold s_lqueue
      apply frS_ex (v := .c (.sl H.length 0 e.q.length e.q.length)) Try.func30 rfl Try.results30 Try.ntmps30 (by simp only [List.length_cons, List.length_nil]; decide)
      · intro _ _
        (try simp (config := { maxSteps := 10000000 }) only [go_sem, seval, g, hl, hc]; repeat (simp (disch := omega) only [w64_d, ipos, ineg, dpos, dneg]; try simp (config := { maxSteps := 10000000 }) only [go_sem, seval, g, hl, hc]))
        exact fin_same
      · simp
      · exact post (by rw [quS_s h hf]; exact Own1.vec rfl)
  obtain ⟨v, H1, h1, hlen, h2⟩ := this
  exact ⟨v, H1, h1, hlen, h2.2 D a rfl h⟩
end
end
end Go.Proofs.Ythfccacopffkgaa
