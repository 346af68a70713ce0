/- A law's frame over the abstract machine: what its arguments are, and that it answers true: no conditions. -/
import Derived.Test.YtcbhelkafelofaaGreatAm
import Derived.ProofKit
import Derived.OpenShut
set_option linter.unusedSimpArgs false
set_option linter.unusedVariables false
/- States that are covered by others; contracts, ready to use. -/
namespace Go.Am
variable {P : Program} {tab : Tab}

def Sc.bel (n : Nat) : Sc → Bool
  | .p id _ _ => decide (id < n)
  | .sl id _ _ _ => decide (id < n)
  | .mp id => decide (id < n)
  | .f _ cs => cs.all fun c => decide (c.1 < n)
  | _ => true
def AV.bel (n : Nat) : AV → Bool
  | .c s => s.bel n
  | .g l => l.all (Sc.bel n)
  | .t l => l.all fun x => match x with | .c s => s.bel n | .g l => l.all (Sc.bel n) | .t _ => true
def cut (ρ : Ro) (n : Nat) : Ro := fun i => if i < n then ρ i else none

theorem PRel.cut {ρ : Ro} {id off ver n : Nat} {v : Value} (h : PRel ρ id off ver v) (hb : id < n) : PRel (cut ρ n) id off ver v := by
  obtain ⟨L, a, h1, h2⟩ := h; exact ⟨L, a, by simp [Am.cut, hb, h1], h2⟩
theorem SRel.cut {ρ : Ro} {s : Sc} {v : Value} {n : Nat} (h : SRel ρ s v) (hb : s.bel n = true) : SRel (Am.cut ρ n) s v := by
  cases s <;> try exact h
  · exact PRel.cut h (by simpa [Sc.bel] using hb)
  · rename_i id off ver len
    obtain ⟨L, b, c, h1, h2⟩ := h
    refine ⟨L, b, c, ?_, h2⟩
    have : id < n := by simpa [Sc.bel] using hb
    simp [Am.cut, this, h1]
  · obtain ⟨cv, h1, h2⟩ := h
    refine ⟨cv, h1, ?_⟩
    simp only [Sc.bel] at hb
    clear h1
    induction h2 with
    | nil => exact .nil
    | cons h _ ih => simp only [List.all_cons, Bool.and_eq_true, decide_eq_true_eq] at hb; exact .cons (PRel.cut h hb.1) (ih hb.2)
  · rename_i id
    obtain ⟨L, b, h1, h2⟩ := h
    have : id < n := by simpa [Sc.bel] using hb
    exact ⟨L, b, by simp [Am.cut, this, h1], h2⟩
theorem L2.cut {ρ : Ro} {n : Nat} {l : List Sc} {c : List Value} (h : L2 (SRel ρ) l c) (hb : l.all (Sc.bel n) = true) : L2 (SRel (Am.cut ρ n)) l c := by
  induction h with
  | nil => exact .nil
  | cons h _ ih => simp only [List.all_cons, Bool.and_eq_true] at hb; exact .cons (h.cut hb.1) (ih hb.2)
theorem VRel.cut {ρ : Ro} {n : Nat} {x : AV} {v : Value} (h : VRel ρ x v) (hb : x.bel n = true) : VRel (Am.cut ρ n) x v := by
  cases x with
  | c s => exact SRel.cut h hb
  | g l => obtain ⟨cs, h1, h2⟩ := h; exact ⟨cs, h1, h2.cut hb⟩
  | t l =>
    obtain ⟨vs, h1, h2⟩ := h
    refine ⟨vs, h1, ?_⟩
    simp only [AV.bel] at hb
    clear h1
    induction h2 with
    | nil => exact .nil
    | @cons a b l m h _ ih =>
      simp only [List.all_cons, Bool.and_eq_true] at hb
      refine .cons ?_ (ih hb.2)
      cases a with
      | c s => exact SRel.cut h hb.1
      | g l => obtain ⟨cs, h1, h2⟩ := h; exact ⟨cs, h1, h2.cut hb.1⟩
      | t l => exact h

theorem V1.cut {ρ : Ro} {n : Nat} {x : AV} {v : Value} (h : V1 ρ x v) (hb : x.scs.all (Sc.bel n) = true) : V1 (Am.cut ρ n) x v := by
  cases x with
  | c s => simp only [AV.scs, List.all_cons, List.all_nil, Bool.and_true] at hb; exact SRel.cut h hb
  | g l => obtain ⟨cs, h1, h2⟩ := h; exact ⟨cs, h1, h2.cut hb⟩
  | t l => exact h.elim
theorem ORel.cut {ρ : Ro} {w : World} {i n : Nat} {o : AObj} (h : ORel ρ w i o) (hi : i < n) (hb : o.scs.all (Sc.bel n) = true) : ORel (Am.cut ρ n) w i o := by
  have hc : Am.cut ρ n i = ρ i := by simp [Am.cut, hi]
  cases o with
  | own cs => obtain ⟨L, c, t, h1, h2, h3, h4, h5, h6, h7⟩ := h; exact ⟨L, c, t, by rw [hc, h1], h2, h3, h4, h5, h6, h7.cut hb⟩
  | vec sz cs =>
    obtain ⟨L, h1, h2, h3, h4, h5, h6⟩ := h
    refine ⟨L, by rw [hc, h1], h2, h3, h4, h5, ?_⟩
    split
    · rename_i hn; rw [if_pos hn] at h6; exact h6
    · rename_i hn; rw [if_neg hn] at h6
      obtain ⟨c, d, t, h7, h8, h9⟩ := h6
      exact ⟨c, d, t, h7, h8, h9.cut hb⟩
  | view cs =>
    obtain ⟨L, h1, h2, h3, h4, h5, h6⟩ := h
    refine ⟨L, by rw [hc, h1], h2, h3, h4, h5, fun j s hjs => ?_⟩
    obtain ⟨v, h7, h8⟩ := h6 j s hjs
    exact ⟨v, h7, h8.cut (List.all_eq_true.1 hb s (List.mem_of_getElem? hjs))⟩
  | map clk es =>
    obtain ⟨L, ems, h1, h2, h3, h4, h5, h6, h7⟩ := h
    refine ⟨L, ems, by rw [hc, h1], h2, h3, h4, h5, h6, ?_⟩
    simp only [AObj.scs] at hb
    clear h6
    induction h7 with
    | nil => exact .nil
    | @cons a e es ems he ht ih =>
      simp only [List.flatMap_cons, List.all_append, Bool.and_eq_true] at hb
      exact .cons ⟨he.1, he.2.1.cut hb.1.1, he.2.2.cut hb.1.2⟩ (ih hb.2)
  | iter m since seen last =>
    obtain ⟨L, b, h1, h2, h3, h4, h5, h6, h7⟩ := h
    simp only [AObj.scs, List.all_cons, List.all_nil, Bool.and_true] at hb
    exact ⟨L, b, by rw [hc, h1], h2, h3, h4, h5, SRel.cut h6 hb, h7⟩
  | dead => trivial

theorem get_mem {fr : Fr} {s : Nat} : Am.get fr s = .c .any ∨ (s, Am.get fr s) ∈ fr := by
  induction fr with
  | nil => exact .inl rfl
  | cons p fr ih =>
    obtain ⟨d, v⟩ := p
    simp only [Am.get]
    split
    · subst_vars; exact .inr (by simp)
    · rcases ih with h | h
      · exact .inl h
      · exact .inr (by simp [h])

def subH : AH → AH → Prop
  | [], _ => True
  | o' :: r', o :: r => (o' = .dead ∨ o' = o) ∧ subH r' r
  | _ :: _, [] => False
theorem subH_get {H' H : AH} (h : subH H' H) : H'.length ≤ H.length ∧ ∀ i, hg H' i = .dead ∨ hg H' i = hg H i := by
  induction H' generalizing H with
  | nil => exact ⟨by simp, fun i => .inl (by simp [hg])⟩
  | cons o' r' ih =>
    cases H with
    | nil => exact h.elim
    | cons o r =>
      obtain ⟨h1, h2⟩ := h
      obtain ⟨h3, h4⟩ := ih h2
      refine ⟨by simp; omega, fun i => ?_⟩
      cases i with
      | zero => simpa [hg] using h1
      | succ i => simpa [hg] using h4 i

theorem Wk.wk {n : Nat} {fr fr' : Fr} {H H' : AH} (hn : n ≤ H'.length) (hf : ∀ p ∈ fr', Am.get fr p.1 = p.2) (hb : (fr'.all fun p => p.2.bel H'.length) = true) (hH : subH H' H) (ho : (H'.all fun o => o.scs.all (Sc.bel H'.length)) = true) :
    Wk n fr H (fr', H') := by
  intro ρ w tm h1 h2
  obtain ⟨hlen, hget⟩ := subH_get hH
  have hown : ∀ i, (hg H' i).owned = true → hg H' i = hg H i := by
    intro i hi
    rcases hget i with e | e
    · rw [e] at hi; simp [AObj.owned] at hi
    · exact e
  have hlive : ∀ i, (hg H' i).live = true → hg H' i = hg H i := by
    intro i hi
    rcases hget i with e | e
    · rw [e] at hi; simp [AObj.live] at hi
    · exact e
  refine ⟨Am.cut ρ H'.length, fun s => ?_, ⟨fun i => ?_, fun i j Li Lj hij hio hLi hni hjl hLj hnj => ?_, fun i hi => ?_⟩, fun i L hi hL hnL => ?_, fun i hi => by simp only [Am.cut]; rw [if_pos (Nat.lt_of_lt_of_le hi hn)]⟩
  · rcases get_mem (fr := fr') (s := s) with h | h
    · show VRel _ (Am.get fr' s) _
      rw [h]; trivial
    · show VRel _ (Am.get fr' s) _
      have e := hf _ h
      have hbel := List.all_eq_true.1 hb _ h
      have := h1 s
      simp only at e
      rw [e] at this
      exact this.cut hbel
  · rcases Nat.lt_or_ge i H'.length with hi | hi
    · show ORel _ _ _ (hg H' i)
      rcases hget i with e | e
      · rw [e]; trivial
      · have hO := h2.obj i
        rw [← e] at hO
        refine hO.cut hi ?_
        have : hg H' i ∈ H' := by
          unfold hg; rw [List.getD_eq_getElem?_getD, List.getElem?_eq_getElem hi]; simp
        exact List.all_eq_true.1 ho _ this
    · show ORel _ _ _ (hg H' i)
      rw [hg_ge _ hi]; trivial
  · have hi := hg_lt (AObj.owned_live hio)
    have hj := hg_lt hjl
    simp only at hi hj hio hjl
    rw [hown i hio] at hio
    rw [hlive j hjl] at hjl
    exact h2.sep i j Li Lj hij hio (by simpa [Am.cut, hi] using hLi) hni hjl (by simpa [Am.cut, hj] using hLj) hnj
  · simp only [Am.cut]; rw [if_neg (by simp at hi; omega)]
  · have hlt := hg_lt (AObj.owned_live hi)
    simp only at hi hlt
    exact ⟨i, by rw [← hown i hi]; exact hi, by simpa [Am.cut, hlt] using hL⟩

theorem subH_take {H H' : AH} (h : H.take H'.length = H') : subH H' H := by
  induction H' generalizing H with
  | nil => trivial
  | cons o r ih =>
    cases H with
    | nil => simp at h
    | cons x y => simp only [List.length_cons, List.take_succ_cons, List.cons.injEq] at h; exact ⟨.inr h.1.symm, ih h.2⟩
theorem Wk.drop {fr fr' : Fr} {H H' : AH} (hf : ∀ p ∈ fr', Am.get fr p.1 = p.2) (hb : (fr'.all fun p => p.2.bel H'.length) = true) (hH : H.take H'.length = H') (ho : (H'.all fun o => o.scs.all (Sc.bel H'.length)) = true) :
    Wk 0 fr H (fr', H') := Wk.wk (Nat.zero_le _) hf hb (subH_take hH) ho

theorem Wk.trans {n : Nat} {fr : Fr} {H : AH} {S T : Fr × AH} (h : Wk n fr H S) (h' : Wk n S.1 S.2 T) : Wk n fr H T := by
  intro ρ w tm h1 h2
  obtain ⟨ρ1, a1, a2, a3, a4⟩ := h ρ w tm h1 h2
  obtain ⟨ρ2, b1, b2, b3, b4⟩ := h' ρ1 w tm a1 a2
  refine ⟨ρ2, b1, b2, fun i L hi hL hn => ?_, fun i hi => by rw [b4 i hi, a4 i hi]⟩
  obtain ⟨j, hj, hL'⟩ := b3 i L hi hL hn
  exact a3 j L hj hL' hn

theorem Wk.nil {n : Nat} {fr : Fr} {H : AH} (d sz : Nat) (hsz : 0 < sz) (hd : Am.get fr d = .c .nils) (hn : n ≤ H.length) : Wk n fr H ((d, .c (.sl H.length 0 0 0)) :: fr, H ++ [.vec sz []]) := by
  intro ρ w tm h1 h2
  have hst : Stab ρ (upd ρ H.length ⟨0, 0, 0, 0, true, true⟩) := by
    intro i Li hi
    have : i ≠ H.length := by rintro rfl; rw [h2.fresh _ (Nat.le_refl _)] at hi; simp at hi
    exact ⟨Li, by rw [upd_ne _ _ this, hi], .inl rfl⟩
  refine ⟨upd ρ H.length ⟨0, 0, 0, 0, true, true⟩, fun s => ?_, ⟨fun i => ?_, fun i j Li Lj hij hio hLi hni hjl hLj hnj => ?_, fun i hi => ?_⟩, fun i L hi hL hnL => ?_, fun i hi => upd_ne _ _ (by omega)⟩
  · simp only [Am.get]
    split
    · rename_i hds
      rw [← hds]
      have := h1 d
      rw [hd] at this
      have e : tm d = .slice none 0 0 := this
      rw [e]
      refine ⟨_, none, 0, upd_same _ _ _, rfl, by simp, by omega, by omega, Nat.le_refl _, fun _ => ?_⟩
      rw [if_pos rfl]; simp
    · exact (h1 s).mono hst
  · rw [hg_append]
    split
    · subst_vars
      refine ⟨_, upd_same _ _ _, rfl, rfl, rfl, hsz, ?_⟩
      rw [if_pos rfl]; simp
    · rename_i hne
      exact (h2.obj i).keep hst (upd_ne _ _ hne) (fun _ _ _ _ => rfl) (Nat.le_refl _)
  · have hni' : i ≠ H.length := by rintro rfl; rw [upd_same] at hLi; simp at hLi; subst hLi; simp at hni
    have hnj' : j ≠ H.length := by rintro rfl; rw [upd_same] at hLj; simp at hLj; subst hLj; simp at hnj
    rw [hg_append, if_neg hni'] at hio
    rw [hg_append, if_neg hnj'] at hjl
    rw [upd_ne _ _ hni'] at hLi
    rw [upd_ne _ _ hnj'] at hLj
    exact h2.sep i j Li Lj hij hio hLi hni hjl hLj hnj
  · simp at hi
    rw [upd_ne _ _ (by omega)]; exact h2.fresh i (by omega)
  · have hni' : i ≠ H.length := by rintro rfl; rw [upd_same] at hL; simp at hL; subst hL; simp at hnL
    rw [hg_append, if_neg hni'] at hi
    rw [upd_ne _ _ hni'] at hL
    exact ⟨i, hi, hL⟩

theorem pu_ok {f : Nat} {fn : Func} {code : Code} {rs : List ResultVar} {n : Nat} {s : List AV → Option AV} (hmix : P.follows .mixedOrders = true) (ht : TabOk P tab)
    (hf : P.funcs[f]? = some fn) (hb : fn.body = some code) (hrs : fn.results = rs.toArray) (hn : fn.ntmps = n) (hname : (fn.name == "runtime.NumGoroutine") = false) (hok : okC n ddr code = true)
    (h : ∀ args v, s args = some v → args.length ≤ n ∧ args.all AV.pf = true ∧ v.pf = true ∧ arun P tab [.c code] (frA 0 args) [] (fun fr H => resA P fr H rs = some v)) : PuOk P f s :=
  pu_of_arun ddr hf hb hrs hn hname ht (fun ops h1 h2 => draw_any ht hmix ops h1 h2) hok h

theorem Keep.grown {w w' : World} (h : Keep w (fun _ => False) w') : RowKit.Grown w w' := by
  refine ⟨⟨h.os, h.output, fun i hi => ?_⟩, fun a => ?_, h.size⟩
  · rw [h.old i hi (fun f => f)]
    split <;> simp_all
  · rcases Nat.lt_or_ge a.block w.heap.size with hl | hg
    · simp only [World.frozen?]; rw [h.old _ hl (fun f => f)]
    · have e1 : w.frozen? a = false := by simp [World.frozen?, Array.getElem?_eq_none hg]
      rw [e1]
      unfold World.frozen?
      split
      · rename_i c t lo hi heq
        have := h.free _ _ _ _ heq (.inl hg)
        simp at this; obtain ⟨rfl, rfl⟩ := this; simp
      · rfl

theorem SRel.bel {ρ : Ro} {s : Sc} {v : Value} {n : Nat} (h : SRel ρ s v) (hf : ∀ i, n ≤ i → ρ i = none) : s.bel n = true := by
  have key : ∀ id L, ρ id = some L → id < n := by
    intro id L hL
    rcases Nat.lt_or_ge id n with h | h
    · exact h
    · rw [hf id h] at hL; simp at hL
  cases s <;> try rfl
  · obtain ⟨L, a, h1, _⟩ := (show PRel _ _ _ _ _ from h)
    simp only [Sc.bel, decide_eq_true_eq]; exact key _ _ h1
  · obtain ⟨L, b, c, h1, _⟩ := (show SlRel _ _ _ _ _ _ from h)
    simp only [Sc.bel, decide_eq_true_eq]; exact key _ _ h1
  · obtain ⟨cv, hv, h2⟩ := h
    clear hv
    simp only [Sc.bel]
    induction h2 with
    | nil => rfl
    | cons h _ ih =>
      obtain ⟨L, a, h1, _⟩ := h
      rw [List.all_cons, Bool.and_eq_true]
      exact ⟨by simpa using key _ _ h1, ih⟩
  · obtain ⟨L, b, h1, _⟩ := h
    simp only [Sc.bel, decide_eq_true_eq]; exact key _ _ h1
theorem L2.bel {ρ : Ro} {l : List Sc} {c : List Value} {n : Nat} (h : L2 (SRel ρ) l c) (hf : ∀ i, n ≤ i → ρ i = none) : l.all (Sc.bel n) = true := by
  induction h with
  | nil => rfl
  | cons h _ ih => simp only [List.all_cons, ih, Bool.and_true]; exact h.bel hf
theorem VRel.bel {ρ : Ro} {x : AV} {v : Value} {n : Nat} (h : VRel ρ x v) (hf : ∀ i, n ≤ i → ρ i = none) : x.bel n = true := by
  cases x with
  | c s => exact SRel.bel h hf
  | g l => obtain ⟨cs, _, h2⟩ := h; exact h2.bel hf
  | t l =>
    obtain ⟨vs, h1, h2⟩ := h
    simp only [AV.bel]
    clear h1
    induction h2 with
    | nil => rfl
    | @cons a b l m h _ ih =>
      simp only [List.all_cons, ih, Bool.and_true]
      cases a with
      | c s => exact SRel.bel h hf
      | g l => obtain ⟨cs, _, h2⟩ := h; exact h2.bel hf
      | t l => rfl
def belH (H : AH) : Bool := H.all fun o => o.scs.all (Sc.bel H.length)
theorem HR.bel {ρ : Ro} {w : World} {H : AH} (h : HR ρ w H) : belH H = true := by
  unfold belH
  rw [List.all_eq_true]
  intro o ho
  obtain ⟨i, hi⟩ := List.getElem?_of_mem ho
  have hO := h.obj i
  have e : hg H i = o := by simp [hg, List.getD_eq_getElem?_getD, hi]
  rw [e] at hO
  cases o with
  | own cs => obtain ⟨L, c, t, _, _, _, _, _, _, h7⟩ := hO; exact h7.bel h.fresh
  | vec sz cs =>
    obtain ⟨L, _, _, _, _, _, h6⟩ := hO
    split at h6
    · simp only [AObj.scs]; simp_all
    · obtain ⟨c, d, t, _, _, h9⟩ := h6; exact h9.bel h.fresh
  | view cs =>
    obtain ⟨L, _, _, _, _, _, h6⟩ := hO
    simp only [AObj.scs]
    rw [List.all_eq_true]
    intro s hs
    obtain ⟨j, hj⟩ := List.getElem?_of_mem hs
    obtain ⟨v, _, h8⟩ := h6 j s hj
    exact h8.bel h.fresh
  | map clk es =>
    obtain ⟨L, ems, _, _, _, _, _, h6, h7⟩ := hO
    have hV : ∀ {x : AV} {v : Value}, V1 ρ x v → x.scs.all (Sc.bel H.length) = true := by
      intro x v hx
      cases x with
      | c s => simp only [AV.scs, List.all_cons, List.all_nil, Bool.and_true]; exact SRel.bel hx h.fresh
      | g l => obtain ⟨cs, _, h2⟩ := hx; exact h2.bel h.fresh
      | t l => rfl
    simp only [AObj.scs]
    clear hi ho e h6
    induction h7 with
    | nil => rfl
    | @cons a e es ems he ht ih =>
      simp only [List.flatMap_cons, List.all_append, Bool.and_eq_true]
      exact ⟨⟨hV he.2.1, hV he.2.2⟩, ih⟩
  | iter m since seen last =>
    obtain ⟨L, b, _, _, _, _, _, h6, _⟩ := hO
    simp only [AObj.scs, List.all_cons, List.all_nil, Bool.and_true]
    exact SRel.bel h6 h.fresh
  | dead => rfl
theorem cells_scs {o : AObj} {p : Sc → Bool} (h : o.scs.all p = true) : o.cells.all p = true := by
  cases o <;> first | exact h | rfl

theorem HR.frozen {ρ : Ro} {w : World} {H : AH} (h : HR ρ w H) : ∀ b c t f, w.heap[b]? = some (.cells c t f) → Owns ρ H b → f = (0, 0) := by
  rintro b c t f hb ⟨i, L, h1, h2, h3, rfl⟩
  have hO := h.obj i
  generalize hg H i = o at hO h1
  cases o with
  | own cs =>
    obtain ⟨L', c', t', g1, _, _, _, _, g6, _⟩ := hO
    rw [h2] at g1; simp at g1; subst g1
    rw [hb] at g6; simp at g6; exact g6.2.2
  | vec sz cs =>
    obtain ⟨L', g1, _, _, _, _, g6⟩ := hO
    rw [h2] at g1; simp at g1; subst g1
    rw [if_neg (by simp [h3])] at g6
    obtain ⟨c', d, t', g7, _, _⟩ := g6
    rw [hb] at g7; simp at g7; exact g7.2.2
  | view cs => simp [AObj.owned] at h1
  | map clk es =>
    obtain ⟨L', ems, g1, _, _, _, _, g6, _⟩ := hO
    rw [h2] at g1; simp at g1; subst g1
    rw [hb] at g6; simp at g6
  | iter m since seen last =>
    obtain ⟨L', b', g1, _, _, _, _, _, g6⟩ := hO
    rw [h2] at g1; simp at g1; subst g1
    rw [hb] at g6; simp at g6
  | dead => simp [AObj.owned] at h1

theorem fp_ok {f : Nat} {fn : Func} {code : Code} {rs : List ResultVar} {n : Nat} {s : List AV → AH → Option (AV × AH)} (hmix : P.follows .mixedOrders = true) (ht : TabOk P tab)
    (hf : P.funcs[f]? = some fn) (hb : fn.body = some code) (hrs : fn.results = rs.toArray) (hn : fn.ntmps = n) (hname : (fn.name == "runtime.NumGoroutine") = false) (hok : okC n ddr code = true)
    (hle : ∀ args H v H1, s args H = some (v, H1) → H.length ≤ H1.length) (h : ∀ args H v H1, s args H = some (v, H1) → (args.all (AV.bel H.length)) = true → belH H = true → args.length ≤ n ∧
      arun P ((1000000, .lo H.length) :: tab) [.c code] (frA 0 args) H (fun fr H' => ∃ v', resA P fr H' rs = some v' ∧ Wk H.length [(0, v')] H' ([(0, v)], H1))) : FpOk P f s := by
  obtain rfl : fn.results.toList = rs := by rw [hrs]
  subst hn
  refine ⟨fun args w => ?_, hle, fun args H v H1 hs ρ w cs hcs hH => ?_⟩
  · have hn : ¬ fn.name = "runtime.NumGoroutine" := by simpa using hname
    simp [callFunc, hf, hn, hb]
  · have hbel : args.all (AV.bel H.length) = true := by
      clear hs
      induction hcs with
      | nil => rfl
      | cons h _ ih => simp only [List.all_cons, ih, Bool.and_true]; exact h.bel hH.fresh
    obtain ⟨h1, h4⟩ := h args H v H1 hs hbel hH.bel
    have hlen := hcs.length
    have ht' : TabOk P ((1000000, .lo H.length) :: tab) := TabOk.cons (e := .lo H.length) trivial ht
    refine calls_of_wp hf hb ?_
    have hst : St fn.ntmps w ⟨Owns ρ H, H.length, ρ⟩ ρ (frA 0 args) H { tmps := cs.toArray ++ Array.replicate (fn.ntmps - cs.toArray.size) undef, defers := [] } w := by
      refine ⟨fun x => ?_, by simp; omega, rfl, hH, Keep.refl w _ hH.frozen, fun i L h1 h2 h3 => .inl ⟨i, L, h1, h2, h3, rfl⟩, fun i _ L hL => ⟨L, hL, .inl rfl⟩⟩
      have := get_frA args cs hcs 0 x
      rw [if_pos (Nat.zero_le _), Nat.sub_zero] at this
      have e : (cs.toArray ++ Array.replicate (fn.ntmps - cs.toArray.size) undef).getD x undef = cs.getD x undef := by
        rw [Array.getD_eq_getD_getElem?, List.getD_eq_getElem?_getD, Array.getElem?_append]
        split
        · simp
        · rename_i hx
          simp at hx
          rw [List.getElem?_eq_none hx, Array.getElem?_replicate]
          split <;> rfl
      rw [e]; exact this
    have hkp := sound (M := ⟨Owns ρ H, H.length, ρ⟩) (Nat.le_refl _) ht' ddr (fun ops h1 h2 => draw_any ht' hmix ops h1 h2) (kwt [.c code]) [.c code] (Nat.le_refl _) (by
        simp only [okK, List.all_cons, List.all_nil, Bool.and_true, okI]
        exact hok) _ _ h4 _ _ _ hst
    refine wp_mono (show code.wp P (Kp P fn.ntmps w ⟨Owns ρ H, H.length, ρ⟩ _ []) _ w from hkp) ?_
    intro e a2 w2 hq
    have fin : SI fn.ntmps w ⟨Owns ρ H, H.length, ρ⟩ (fun fr H' => ∃ v', resA P fr H' fn.results.toList = some v' ∧ Wk H.length [(0, v')] H' ([(0, v)], H1)) a2 w2 → a2.defers = [] ∧ ∃ v', (results fn a2.tmps).run P w2 = .ok v' w2 ∧
        ∃ vc ρ', Ending.returned v' = .returned vc ∧ VRel ρ' v vc ∧ HR ρ' w2 H1 ∧ Stab ρ ρ' ∧ Keep w (Owns ρ H) w2 ∧ (∀ b, Owns ρ' H1 b → Owns ρ H b ∨ w.heap.size ≤ b) := by
      rintro ⟨ρ2, fr2, H2, hs2, v', hres, hwk⟩
      obtain ⟨vc, h5, h6⟩ := resA_run (P := P) hres hs2.fr hs2.hr.obj
      obtain ⟨ρ3, g1, g2, g3, g4⟩ := hwk ρ2 w2 (fun x => if x = 0 then vc else undef) (fun x => by
        simp only [Am.get]
        by_cases e : 0 = x
        · subst e; simpa using h6
        · rw [if_neg e]; trivial) hs2.hr
      have hv : VRel ρ3 v vc := by have := g1 0; simpa [Am.get] using this
      refine ⟨hs2.df, vc, h5, vc, ρ3, rfl, hv, g2, fun i L hL => ?_, hs2.kp, ?_⟩
      · have hi : i < H.length := by
          rcases Nat.lt_or_ge i H.length with h | h
          · exact h
          · rw [hH.fresh i h] at hL; simp at hL
        rw [g4 i hi]; exact hs2.st i hi L hL
      · rintro b ⟨i, L, e1, e2, e3, rfl⟩
        obtain ⟨j, e4, e5⟩ := g3 i L e1 e2 e3
        exact hs2.ow j L e4 e5 e3
    cases e <;> first | exact fin hq | exact hq.elim

theorem subH_refl (H : AH) : subH H H := by
  induction H with
  | nil => trivial
  | cons o r ih => exact ⟨.inr rfl, ih⟩
theorem subH_app (H X : AH) : subH H (H ++ X) := by
  induction H with
  | nil => trivial
  | cons o r ih => exact ⟨.inr rfl, ih⟩

theorem arun_mono {P : Program} {tab : Tab} {Q R : Fr → AH → Prop} (h : ∀ fr H, Q fr H → R fr H) : ∀ (n : Nat) (k : List It), kwt k ≤ n → ∀ fr H, arun P tab k fr H Q → arun P tab k fr H R := by
  intro n
  induction n with
  | zero =>
    intro k hk fr H hr
    cases k with
    | nil => rw [arun_nil] at hr ⊢; exact h _ _ hr
    | cons x k => exfalso; cases x <;> simp [kwt, It.wt] at hk; rename_i c; cases c <;> simp [cwt] at hk
  | succ n ih =>
    intro k hk fr H hr
    cases k with
    | nil => rw [arun_nil] at hr ⊢; exact h _ _ hr
    | cons x k =>
      cases x with
      | blk id => rw [arun_blk] at hr ⊢; exact ih k (by simp [kwt, It.wt] at hk ⊢; omega) _ _ hr
      | back I => rw [arun_back] at hr ⊢; exact hr
      | scp => rw [arun_scp] at hr ⊢; exact ih k (by simp [kwt, It.wt] at hk ⊢; omega) _ _ hr
      | scj l J => rw [arun_scj] at hr ⊢; exact ih k (by simp [kwt, It.wt] at hk ⊢; omega) _ _ hr
      | ops full l =>
        cases l with
        | nil => rw [arun_ops_nil] at hr ⊢; exact ih k (by simp [kwt, It.wt] at hk ⊢; omega) _ _ hr
        | cons o l =>
          have go : ∀ fr H, arun P tab (.ops full l :: k) fr H Q → arun P tab (.ops full l :: k) fr H R := fun fr H hr => ih (.ops full l :: k) (by simp [kwt, It.wt] at hk ⊢; omega) _ _ hr
          rw [arun_op] at hr ⊢
          split at hr
          · split at hr
            · exact go _ _ hr
            · split at hr
              · exact fun v H' hm => go _ _ (hr v H' hm)
              · exact hr.elim
          · split at hr
            · split at hr
              · rename_i e; simp only [e, if_true]
                split at hr
                · exact go _ _ hr
                · exact hr.elim
              · rename_i e; simp only [e, if_false]; exact go _ _ hr
            · exact go _ _ hr
            · exact hr.elim
      | dr full l i log =>
        cases l with
        | nil => rw [arun_dr_nil] at hr ⊢; exact ih k (by simp [kwt, It.wt] at hk ⊢; omega) _ _ hr
        | cons o l =>
          have go : ∀ fr H i log, arun P tab (.dr full l i log :: k) fr H Q → arun P tab (.dr full l i log :: k) fr H R := fun fr H i log hr => ih (.dr full l i log :: k) (by simp [kwt, It.wt] at hk ⊢; omega) _ _ hr
          rw [arun_dr] at hr ⊢
          split at hr
          · split at hr
            · exact ⟨hr.1, go _ _ _ _ hr.2⟩
            · exact hr.elim
          · split at hr
            · split at hr
              · rename_i e; simp only [e, if_true]
                split at hr
                · exact ⟨hr.1, go _ _ _ _ hr.2⟩
                · exact hr.elim
              · rename_i e; simp only [e, if_false]; exact go _ _ _ _ hr
            · exact go _ _ _ _ hr
            · exact hr.elim
      | c x =>
        have hpos : 0 < cwt x := by cases x <;> simp [cwt]
        have hkk : ∀ fr H, arun P tab k fr H Q → arun P tab k fr H R := fun fr H hr => ih k (by simp [kwt, It.wt] at hk ⊢; omega) _ _ hr
        cases x with
        | skip => rw [arun_skip] at hr ⊢; exact hkk _ _ hr
        | region id ops d =>
          cases d with
          | false => rw [arun_region] at hr ⊢; exact ih (.ops ops ops.toList :: k) (by simp [kwt, It.wt, cwt] at hk ⊢; omega) _ _ hr
          | true => rw [arun_regiond] at hr ⊢; exact ih (.dr ops ops.toList 0 [] :: k) (by simp [kwt, It.wt, cwt] at hk ⊢; omega) _ _ hr
        | seq a b => rw [arun_seq] at hr ⊢; exact ih (.c a :: .c b :: k) (by simp [kwt, It.wt, cwt] at hk ⊢; omega) _ _ hr
        | cond v a b =>
          rw [arun_cond] at hr ⊢
          split at hr
          · split at hr
            · rename_i e; rw [if_pos e]; exact ih (.c a :: k) (by simp [kwt, It.wt, cwt] at hk ⊢; omega) _ _ hr
            · rename_i e; rw [if_neg e]; exact ih (.c b :: k) (by simp [kwt, It.wt, cwt] at hk ⊢; omega) _ _ hr
          · exact ⟨ih (.c a :: k) (by simp [kwt, It.wt, cwt] at hk ⊢; omega) _ _ hr.1, ih (.c b :: k) (by simp [kwt, It.wt, cwt] at hk ⊢; omega) _ _ hr.2⟩
          · exact hr.elim
        | block id a => rw [arun_block] at hr ⊢; exact ih (.c a :: .blk id :: k) (by simp [kwt, It.wt, cwt] at hk ⊢; omega) _ _ hr
        | loop a =>
          rw [arun_loop] at hr ⊢
          obtain ⟨ι, F, μ, i0, h0, h1⟩ := hr
          exact ⟨ι, F, μ, i0, h0, fun i => ih (.c a :: .back _ :: k) (by simp [kwt, It.wt, cwt] at hk ⊢; omega) _ _ (h1 i)⟩
        | exit id =>
          rw [arun_exit] at hr ⊢
          split at hr
          · rename_i k' hp
            have := popB_wt hp
            exact ih k' (by simp [kwt, It.wt, cwt] at hk this ⊢; omega) _ _ hr
          · exact hr.elim
        | label l => rw [arun_label] at hr ⊢; exact hkk _ _ hr
        | goto l => rw [arun_goto] at hr ⊢; exact hr
        | scope a =>
          rw [arun_scope] at hr ⊢
          rcases hr with hr | ⟨l, rest, J, hf, h1, hle, h2⟩
          · exact .inl (ih (.c a :: .scp :: k) (by simp [kwt, It.wt, cwt] at hk ⊢; omega) _ _ hr)
          · exact .inr ⟨l, rest, J, hf, ih (.c a :: .scj l J :: k) (by simp [kwt, It.wt, cwt] at hk ⊢; omega) _ _ h1, hle, fun fr H hj => ih (.c rest :: .scp :: k) (by simp [kwt, It.wt, cwt] at hk ⊢; omega) _ _ (h2 fr H hj)⟩
        | ret => rw [arun_ret] at hr ⊢; exact h _ _ hr
        | _ => rw [arun] at hr <;> first | exact hr.elim | simp

theorem fq_ok {f : Nat} {fn : Func} {code : Code} {rs : List ResultVar} {n : Nat} {s : List AV → AH → Option AV} (hmix : P.follows .mixedOrders = true) (ht : TabOk P tab)
    (hf : P.funcs[f]? = some fn) (hb : fn.body = some code) (hrs : fn.results = rs.toArray) (hn : fn.ntmps = n) (hname : (fn.name == "runtime.NumGoroutine") = false) (hok : okC n ddr code = true)
    (h : ∀ args H v, s args H = some v → (args.all (AV.bel H.length)) = true → belH H = true → args.length ≤ n ∧ v.bel H.length = true ∧
      arun P ((1000000, .lo H.length) :: tab) [.c code] (frA 0 args) H (fun fr H' => resA P fr H' rs = some v ∧ subH H H')) : FpOk P f fun args H => (s args H).map fun v => (v, H) := by
  refine fp_ok hmix ht hf hb hrs hn hname hok (fun args H v H1 hs => by simp only [Option.map_eq_some_iff, Prod.mk.injEq] at hs; obtain ⟨_, _, _, rfl⟩ := hs; exact Nat.le_refl _) fun args H v H1 hs hargs hH => ?_
  simp only [Option.map_eq_some_iff, Prod.mk.injEq] at hs
  obtain ⟨v', h1, rfl, rfl⟩ := hs
  obtain ⟨h2, h3, h4⟩ := h args H v' h1 hargs hH
  refine ⟨h2, ?_⟩
  have key : ∀ fr H', (resA P fr H' rs = some v' ∧ subH H H') → ∃ x, resA P fr H' rs = some x ∧ Wk H.length [(0, x)] H' ([(0, v')], H) := by
    rintro fr H' ⟨e1, e2⟩
    exact ⟨v', e1, Wk.wk (Nat.le_refl _) (by simp [Am.get]) (by simp only [List.all_cons, h3]; rfl) e2 hH⟩
  exact arun_mono key _ _ (Nat.le_refl _) _ _ h4

theorem bel_set {H : AH} {o : AObj} {i : Nat} (hH : belH H = true) (ho : o.scs.all (Sc.bel H.length) = true) : ((H.set i o).all fun x => x.scs.all (Sc.bel (H.set i o).length)) = true := by
  rw [List.length_set, List.all_eq_true]
  intro x hx
  rcases List.mem_or_eq_of_mem_set hx with h | rfl
  · exact List.all_eq_true.1 hH x h
  · exact ho
theorem set_self {H : AH} {o : AObj} {i : Nat} (h : hg H i = o) (hi : i < H.length) : H.set i o = H := by
  have : H[i] = o := by rw [← h]; simp [hg, List.getD_eq_getElem?_getD, hi]
  rw [← this]; exact List.set_getElem_self hi

theorem Sc.bel_mono {s : Sc} {m n : Nat} (h : s.bel m = true) (hmn : m ≤ n) : s.bel n = true := by
  cases s <;> try rfl
  · simp only [Sc.bel, decide_eq_true_eq] at h ⊢; omega
  · simp only [Sc.bel, decide_eq_true_eq] at h ⊢; omega
  · simp only [Sc.bel, List.all_eq_true, decide_eq_true_eq] at h ⊢
    exact fun c hc => Nat.lt_of_lt_of_le (h c hc) hmn
  · simp only [Sc.bel, decide_eq_true_eq] at h ⊢; omega

end Go.Am

/- A law's frame: what its arguments are, and that it answers true. -/
namespace Go.Am
variable {P : Program}

inductive K where
  | n (k : IntKind)
  | q
  | s
def FitK : Sc → K → Prop
  | .i x, .n .i64 => -9223372036854775808 ≤ x ∧ x ≤ 9223372036854775807
  | .u _, .n .u64 => True
  | .k kd x, .n kd' => kd = kd' ∧ kd.bits ≤ 32 ∧ kd.min ≤ x ∧ x ≤ kd.max
  | .b _, .q => True
  | .s t, .s => t.size ≤ 9223372036854775807
  | _, _ => False
def flF (g : TypeId → Option (List K)) (P : Program) : List Field → Nat → Option (List K)
  | [], _ => some []
  | f :: r, off =>
    if f.offset = off then
      match g f.type, flF g P r (off + P.cellsOf f.type) with
      | some a, some b => if a.length = P.cellsOf f.type then some (a ++ b) else none
      | _, _ => none
    else none
def flK (P : Program) : Nat → TypeId → Option (List K)
  | 0, _ => none
  | d + 1, t =>
    match P.underlying t with
    | some .bool => some [.q]
    | some (.int k) => some [.n k]
    | some .string => some [.s]
    | some (.struct fs) => (flF (flK P d) P fs.toList 0).bind fun l => if l.length = P.cellsOf t then some l else none
    | some (.array m e) => (flK P d e).bind fun l => if l.length = P.cellsOf e ∧ m * l.length = P.cellsOf t then some (List.replicate m l).flatten else none
    | _ => none

section
variable {H : Type} {enc : TypeId × Value → H} {w : World} {base : Nat} {sp : Nat → Bool} {held : Bool}
def Read (ρ : Ro) (cs : List Value) (ks : List K) (x : List MemPlace) : Prop := x = [] ∧ ∃ l, L2 FitK l ks ∧ L2 (SRel ρ) l cs

theorem int_fit {ρ : Ro} {k : IntKind} {n : Int} (h : (Lit.int k n).wf = true) : ∃ l, L2 FitK l [.n k] ∧ L2 (SRel ρ) l [.int k n] := by
  simp only [Lit.wf, Bool.and_eq_true, decide_eq_true_eq] at h
  by_cases h1 : k = .i64
  · subst h1
    have h2 : -9223372036854775808 ≤ n ∧ n ≤ 9223372036854775807 := h
    exact ⟨[.i n], .cons h2 .nil, .cons ⟨rfl, h2⟩ .nil⟩
  · by_cases h3 : k = .u64
    · subst h3
      have h2 : 0 ≤ n ∧ n ≤ 18446744073709551615 := h
      refine ⟨[.u (BitVec.ofInt 64 n)], .cons trivial .nil, .cons ?_ .nil⟩
      show Value.int .u64 n = .int .u64 _
      congr 1
      rw [BitVec.toNat_ofInt]; omega
    · have hb : k.bits ≤ 32 := by cases k <;> simp [IntKind.bits] at h1 h3 ⊢
      exact ⟨[.k k n], .cons ⟨rfl, hb, h.1, h.2⟩ .nil, .cons ⟨rfl, hb, h.1, h.2⟩ .nil⟩

theorem fl_fields {ρ : Ro} {g : TypeId → Option (List K)} {r : TypeId → List Value → Option (DataW H × List MemPlace)} (hg : ∀ t cs x ks, g t = some ks → r t cs = some x → Read ρ cs ks x.2) (cs : List Value) :
    ∀ (fs : List Field) (off : Nat) (ks : List K) (xs : List (DataW H × List MemPlace)), flF g P fs off = some ks → (fs.mapM fun f => r f.type ((cs.drop f.offset).take (P.cellsOf f.type))) = some xs →
      Read ρ ((cs.drop off).take ks.length) ks (xs.flatMap (·.2)) := by
  intro fs
  induction fs with
  | nil =>
    intro off ks xs h1 h2
    simp [flF] at h1; subst h1
    simp at h2; subst h2
    exact ⟨rfl, [], .nil, by simp; exact .nil⟩
  | cons f fs ih =>
    intro off ks xs h1 h2
    simp only [flF] at h1
    split at h1 <;> try (simp at h1; done)
    rename_i ho
    split at h1 <;> try (simp at h1; done)
    rename_i a b ha hb
    split at h1 <;> simp at h1
    rename_i hl
    subst h1
    simp only [List.mapM_cons, Option.bind_eq_bind, Option.bind_eq_some_iff, Option.pure_def, Option.some.injEq] at h2
    obtain ⟨x, hx, ys, hy, rfl⟩ := h2
    obtain ⟨e1, l1, h3, h4⟩ := hg _ _ _ _ ha hx
    obtain ⟨e2, l2, h5, h6⟩ := ih _ _ _ hb hy
    refine ⟨by simp [e1, e2], l1 ++ l2, h3.app h5, ?_⟩
    rw [List.length_append, hl, List.take_add, List.drop_drop, ← ho]
    rw [← ho] at h6
    exact h4.app h6

theorem fl_rows {ρ : Ro} {r : List Value → Option (DataW H × List MemPlace)} {ke : List K} (hg : ∀ cs x, r cs = some x → Read ρ cs ke x.2) (cs : List Value) :
    ∀ (n i : Nat) (xs : List (DataW H × List MemPlace)), ((List.range' i n).mapM fun i => r ((cs.drop (i * ke.length)).take ke.length)) = some xs →
      Read ρ ((cs.drop (i * ke.length)).take (n * ke.length)) (List.replicate n ke).flatten (xs.flatMap (·.2)) := by
  intro n
  induction n with
  | zero => intro i xs h; simp at h; subst h; exact ⟨rfl, [], .nil, by simp; exact .nil⟩
  | succ n ih =>
    intro i xs h
    simp only [List.range'_succ, List.mapM_cons, Option.bind_eq_bind, Option.bind_eq_some_iff, Option.pure_def, Option.some.injEq] at h
    obtain ⟨x, hx, ys, hy, rfl⟩ := h
    obtain ⟨e1, l1, h3, h4⟩ := hg _ _ hx
    obtain ⟨e2, l2, h5, h6⟩ := ih _ _ hy
    refine ⟨by simp [e1, e2], l1 ++ l2, by rw [List.replicate_succ, List.flatten_cons]; exact h3.app h5, ?_⟩
    rw [Nat.add_mul, Nat.one_mul, Nat.add_comm (n * _), List.take_add, List.drop_drop]
    rw [Nat.add_mul, Nat.one_mul] at h6
    exact h4.app h6

theorem trod_fl {ρ : Ro} : ∀ (m d : Nat) (t : TypeId) (cs : List Value) (x : DataW H × List MemPlace) (ks : List K), flK P d t = some ks → DataW.trod enc P w base sp held m t cs = some x → Read ρ cs ks x.2 := by
  intro m
  induction m with
  | zero => intro d t cs x ks _ h; simp [DataW.trod] at h
  | succ m ih =>
    intro d t cs x ks hk h
    cases d with
    | zero => simp [flK] at hk
    | succ d =>
      simp only [flK] at hk
      split at hk
      · rename_i hu; simp at hk; subst hk
        simp only [DataW.trod, hu] at h
        split at h <;> simp_all
        subst h
        exact ⟨rfl, [.b _], .cons trivial .nil, .cons rfl .nil⟩
      · rename_i k hu; simp at hk; subst hk
        simp only [DataW.trod, hu] at h
        split at h <;> simp_all
        obtain ⟨⟨rfl, hw⟩, rfl⟩ := h
        exact ⟨rfl, int_fit hw⟩
      · rename_i hu; simp at hk; subst hk
        simp only [DataW.trod, hu] at h
        split at h <;> simp_all
        obtain ⟨hw, rfl⟩ := h
        have hw' : _ ≤ 9223372036854775807 := hw
        exact ⟨rfl, [.s _], .cons hw' .nil, .cons ⟨rfl, hw'⟩ .nil⟩
      · rename_i fs hu
        simp only [Option.bind_eq_some_iff] at hk
        obtain ⟨l, hl, hk⟩ := hk
        split at hk <;> simp at hk
        rename_i hlen
        subst hk
        simp only [DataW.trod, hu] at h
        split at h
        · rename_i hcl
          simp only [Option.map_eq_some_iff] at h
          obtain ⟨xs, hx, rfl⟩ := h
          have := fl_fields (fun t cs x ks h1 h2 => ih d t cs x ks h1 h2) cs _ _ _ _ hl hx
          rw [List.drop_zero, hlen, ← hcl, List.take_length] at this
          exact this
        · simp at h
      · rename_i n e hu
        simp only [Option.bind_eq_some_iff] at hk
        obtain ⟨l, hl, hk⟩ := hk
        split at hk <;> simp at hk
        rename_i hlen
        subst hk
        simp only [DataW.trod, hu] at h
        split at h
        · rename_i hcl
          simp only [Option.map_eq_some_iff] at h
          obtain ⟨xs, hx, rfl⟩ := h
          rw [List.range_eq_range', ← hlen.1] at hx
          have := fl_rows (r := fun c => DataW.trod enc P w base sp held m e c) (ke := l) (fun cs x h2 => ih d e cs x l hl h2) cs n 0 xs hx
          rw [Nat.zero_mul, List.drop_zero, hlen.2, ← hcl, List.take_length] at this
          exact this
        · simp at h
      · simp at hk
end

inductive Par where
  | fl (agg : Bool) (ks : List K)
  | sl (ks : List K)
  | asl (n : Nat) (ks : List K)
def parT (P : Program) (t : TypeId) : Option Par :=
  match P.underlying t with
  | some (.slice e) => (flK P 20 e).bind fun l => if l.length = P.cellsOf e ∧ 0 < l.length then some (.sl l) else none
  | some (.struct _) => (flK P 20 t).map (.fl true)
  | some (.array m e) =>
    match P.underlying e with
    | some (.slice e') => (flK P 20 e').bind fun l => if l.length = P.cellsOf e' ∧ 0 < l.length ∧ P.cellsOf e = 1 ∧ P.cellsOf t = m then some (.asl m l) else none
    | _ => (flK P 20 t).map (.fl true)
  | some (.int _) | some .bool | some .string => (flK P 20 t).map (.fl false)
  | _ => none
def parsT (P : Program) : List TypeId → Option (List Par)
  | [] => some []
  | t :: r => match parT P t, parsT P r with
    | some a, some b => some (a :: b)
    | _, _ => none
def SlOk (ks : List K) (s : Sc) (H : AH) : Prop := s = .nils ∨ ∃ id n, s = .sl id 0 0 n ∧ id < H.length ∧ (hg H id).row = 0 ∧ (hg H id).owned = false ∧ n ≤ 9223372036854775807 ∧ (hg H id).cells.length = n * ks.length ∧ L2 FitK (hg H id).cells (List.replicate n ks).flatten
theorem SlOk.app {ks : List K} {s : Sc} {H X : AH} (h : SlOk ks s H) : SlOk ks s (H ++ X) := by
  rcases h with h | ⟨id, n, h0, h1, h2, h3, h4, h5, h6⟩
  · exact .inl h
  · have e := hg_lt' (X := X) h1
    exact .inr ⟨id, n, h0, by simp; omega, by rw [e]; exact h2, by rw [e]; exact h3, h4, by rw [e]; exact h5, by rw [e]; exact h6⟩
def SigA : List Par → List AV → AH → Prop
  | [], [], _ => True
  | .fl true ks :: ps, .g l :: avs, H => L2 FitK l ks ∧ SigA ps avs H
  | .fl false ks :: ps, .c s :: avs, H => L2 FitK [s] ks ∧ SigA ps avs H
  | .asl n ks :: ps, .g l :: avs, H => l.length = n ∧ (∀ s ∈ l, SlOk ks s H) ∧ SigA ps avs H
  | .sl _ :: ps, .c .nils :: avs, H => SigA ps avs H
  | .sl ks :: ps, .c (.sl id 0 0 n) :: avs, H => id < H.length ∧ (hg H id).row = 0 ∧ (hg H id).owned = false ∧ n ≤ 9223372036854775807 ∧ (hg H id).cells.length = n * ks.length ∧ L2 FitK (hg H id).cells (List.replicate n ks).flatten ∧ SigA ps avs H
  | _, _, _ => False

theorem SigA.app {X : AH} : ∀ {ps : List Par} {avs : List AV} {H : AH}, SigA ps avs H → SigA ps avs (H ++ X) := by
  intro ps avs H
  fun_induction SigA ps avs H with
  | case1 => intro _; trivial
  | case2 ks ps l avs H ih => rintro ⟨h1, h2⟩; exact ⟨h1, ih h2⟩
  | case3 ks ps l avs H ih => rintro ⟨h1, h2⟩; exact ⟨h1, ih h2⟩
  | case4 n ks ps l avs H ih => rintro ⟨h1, h2, h3⟩; exact ⟨h1, fun s hs => (h2 s hs).app, ih h3⟩
  | case5 ks ps avs H ih => intro h; exact ih h
  | case6 ks ps id n avs H ih =>
    rintro ⟨h1, h2, h3, h4, h5, h6, h7⟩
    have e := hg_lt' (X := X) h1
    exact ⟨by simp; omega, by rw [e]; exact h2, by rw [e]; exact h3, h4, by rw [e]; exact h5, by rw [e]; exact h6, ih h7⟩
  | case7 => intro h; simp [SigA] at h

theorem HR.view {ρ : Ro} {w : World} {H : AH} (h : HR ρ w H) (o : AObj) (L : Loc) (ho : o.owned = false) (hO : ORel (upd ρ H.length L) w H.length o) (hown : ∀ i, (hg H i).owned = false) :
    HR (upd ρ H.length L) w (H ++ [o]) ∧ Stab ρ (upd ρ H.length L) ∧ ∀ i, (hg (H ++ [o]) i).owned = false := by
  have hst : Stab ρ (upd ρ H.length L) := by
    intro i Li hi
    have : i ≠ H.length := by rintro rfl; rw [h.fresh _ (Nat.le_refl _)] at hi; simp at hi
    exact ⟨Li, by rw [upd_ne _ _ this, hi], .inl rfl⟩
  have hown' : ∀ i, (hg (H ++ [o]) i).owned = false := by
    intro i; rw [hg_append]; split
    · exact ho
    · exact hown i
  refine ⟨⟨fun i => ?_, fun i j Li Lj _ hio => ?_, fun i hi => ?_⟩, hst, hown'⟩
  · rw [hg_append]; split
    · subst_vars; exact hO
    · rename_i hne
      exact (h.obj i).keep hst (upd_ne _ _ hne) (fun _ _ _ _ => rfl) (Nat.le_refl _)
  · rw [hown'] at hio; simp at hio
  · simp at hi; rw [upd_ne _ _ (by omega)]; exact h.fresh i (by omega)

section
variable {T : Type} {enc : TypeId × Value → T} {w : World}
theorem cells_get {w : World} {a : Addr} {n : Nat} {cs : List Value} (h : w.cells? 0 a n = some cs) : cs.length = n ∧ ∀ i v, cs[i]? = some v → w.cell? (a.add i) = some v := by
  simp only [World.cells?, Nat.zero_le, if_true] at h
  have key : ∀ (n i0 : Nat) (cs : List Value), ((List.range' i0 n).mapM fun i => w.cell? (a.add i)) = some cs → cs.length = n ∧ ∀ i v, cs[i]? = some v → w.cell? (a.add (i0 + i)) = some v := by
    intro n
    induction n with
    | zero => intro i0 cs h; simp at h; subst h; simp
    | succ n ih =>
      intro i0 cs h
      simp only [List.range'_succ, List.mapM_cons, Option.bind_eq_bind, Option.bind_eq_some_iff, Option.pure_def, Option.some.injEq] at h
      obtain ⟨x, hx, ys, hy, rfl⟩ := h
      obtain ⟨e1, e2⟩ := ih _ _ hy
      refine ⟨by simp [e1], fun i v hv => ?_⟩
      cases i with
      | zero => simp at hv; subst hv; exact hx
      | succ i => have := e2 i v (by simpa using hv); rw [show i0 + (i + 1) = i0 + 1 + i by omega]; exact this
  rw [List.range_eq_range'] at h
  obtain ⟨e1, e2⟩ := key n 0 cs h
  exact ⟨e1, fun i v hv => by have := e2 i v hv; rwa [Nat.zero_add] at this⟩

theorem add_add {a : Addr} {i j : Nat} : (a.add i).add j = a.add (i + j) := by
  simp only [Addr.add]
  by_cases h1 : i = 0
  · subst h1; simp
  · by_cases h2 : j = 0
    · subst h2; simp [h1]
    · simp [h1, h2, Nat.add_assoc]
theorem cell_plain {a : Addr} {v : Value} (h : w.cell? (a.add 0) = some v) (j : Nat) : w.cell? (a.add j) = w.cell? ⟨a.block, a.off + j, none⟩ ∧ a.block < w.heap.size ∧ a = ⟨a.block, a.off + 0, none⟩ := by
  have e0 : a.add 0 = a := by simp [Addr.add]
  rw [e0] at h
  unfold World.cell? at h
  split at h
  · rename_i c _ _ hb
    split at h
    · simp at h
    · rename_i hs
      have hlt : a.block < w.heap.size := by
        rcases Nat.lt_or_ge a.block w.heap.size with h | h
        · exact h
        · rw [Array.getElem?_eq_none h] at hb; simp at hb
      have ha : a = ⟨a.block, a.off, none⟩ := by
        cases a with
        | mk x y z => cases z <;> simp at hs ⊢
      refine ⟨?_, hlt, ha⟩
      have : a.add j = ⟨a.block, a.off + j, none⟩ := by
        rw [ha]; simp only [Addr.add]
        by_cases hj : j = 0
        · subst hj; simp
        · rw [if_neg hj]
      rw [this]
  · simp at h
theorem sl_rows {ρ : Ro} {m : Nat} {e : TypeId} {a : Addr} {ke : List K} (hk : flK P 20 e = some ke) (hl : ke.length = P.cellsOf e) :
    ∀ (n i : Nat) (xs : List (DataW T × List MemPlace)), ((List.range' i n).mapM fun i => (w.cells? 0 (a.add (i * P.cellsOf e)) (P.cellsOf e)).bind (DataW.trod enc P w 0 (fun _ => true) true m e)) = some xs →
      ∃ l, l.length = n * ke.length ∧ L2 FitK l (List.replicate n ke).flatten ∧ ∀ j s, l[j]? = some s → ∃ v, w.cell? (a.add (i * ke.length + j)) = some v ∧ SRel ρ s v := by
  intro n
  induction n with
  | zero => intro i xs h; exact ⟨[], by simp, .nil, by simp⟩
  | succ n ih =>
    intro i xs h
    simp only [List.range'_succ, List.mapM_cons, Option.bind_eq_bind, Option.bind_eq_some_iff, Option.pure_def, Option.some.injEq] at h
    obtain ⟨x, ⟨cs, hc, hx⟩, ys, hy, rfl⟩ := h
    obtain ⟨l2, h5, h6, h7⟩ := ih (i + 1) ys (by simpa only [Option.bind_eq_bind] using hy)
    obtain ⟨hcl, hcg⟩ := cells_get hc
    obtain ⟨_, l1, h3, h4⟩ := trod_fl (ρ := ρ) m 20 e cs x ke hk hx
    have hl1 : l1.length = ke.length := by rw [h4.length, hcl, hl]
    refine ⟨l1 ++ l2, by rw [List.length_append, hl1, h5, Nat.add_mul, Nat.one_mul, Nat.add_comm], by rw [List.replicate_succ, List.flatten_cons]; exact h3.app h6, fun j s hj => ?_⟩
    rcases Nat.lt_or_ge j l1.length with hlt | hge
    · rw [List.getElem?_append_left hlt] at hj
      obtain ⟨v, hv, hr⟩ := h4.get? j s hj
      refine ⟨v, ?_, hr⟩
      have := hcg j v hv
      rw [← hl] at this
      rw [← add_add]; exact this
    · rw [List.getElem?_append_right hge] at hj
      obtain ⟨v, hv, hr⟩ := h7 _ s hj
      refine ⟨v, ?_, hr⟩
      rw [← hv]; congr 2
      rw [hl1] at hge ⊢
      rw [Nat.add_mul, Nat.one_mul]; omega

theorem slice_one {t e : TypeId} {ke : List K} (hu : P.underlying t = some (.slice e)) (hk : flK P 20 e = some ke) (hl : ke.length = P.cellsOf e ∧ 0 < ke.length) {fuel : Nat} {cs : List Value} {x : DataW T × List MemPlace}
    (hf : DataW.trod enc P w 0 (fun _ => true) true fuel t cs = some x) {ρ : Ro} {H : AH} (g3 : HR ρ w H) (g4 : ∀ i, (hg H i).owned = false) :
    ∃ v, cs = [v] ∧ ∃ (X : AH) (ρ' : Ro) (s : Sc), SlOk ke s (H ++ X) ∧ SRel ρ' s v ∧ HR ρ' w (H ++ X) ∧ Stab ρ ρ' ∧ ∀ i, (hg (H ++ X) i).owned = false := by
  cases fuel with
  | zero => simp [DataW.trod] at hf
  | succ fuel =>
    have hcs : cs = [.slice none 0 0] ∨ ∃ a len cap, cs = [.slice (some a) len cap] := by
      simp only [DataW.trod, hu] at hf
      split at hf
      all_goals first | exact .inl rfl | exact .inr ⟨_, _, _, rfl⟩ | (rename_i h0; cases h0; done) | (simp at hf; done) | (rename_i h0 _; cases h0; done)
    rcases hcs with rfl | ⟨a, len, cap, rfl⟩
    · exact ⟨_, rfl, [], ρ, .nils, .inl rfl, rfl, by simpa using g3, Stab.refl ρ, by simpa using g4⟩
    · simp only [DataW.trod, hu] at hf
      split at hf
      · rename_i hc
        obtain ⟨_, hlc, hcm⟩ := hc
        have hcm' : cap ≤ 9223372036854775807 := hcm
        simp only [Option.bind_eq_some_iff] at hf
        obtain ⟨xs, hx, _⟩ := hf
        rw [List.range_eq_range'] at hx
        obtain ⟨l, r1, r2, r3⟩ := sl_rows (ρ := ρ) hk hl.1 len 0 xs hx
        refine ⟨_, rfl, ?_⟩
        by_cases hn : len = 0
        · subst hn
          have hn' : l = [] := List.eq_nil_of_length_eq_zero (by rw [r1]; simp)
          subst hn'
          obtain ⟨k1, k2, k3⟩ := g3.view .dead ⟨0, 0, 0, 1, false, false⟩ rfl trivial g4
          refine ⟨[.dead], _, .sl H.length 0 0 0, ?_, ⟨_, _, _, upd_same _ _ _, rfl, by simp, by omega, by omega, by simp, by simp⟩, k1, k2, k3⟩
          have e : hg (H ++ [AObj.dead]) H.length = .dead := by rw [hg_append, if_pos rfl]
          exact .inr ⟨H.length, 0, rfl, by simp, by rw [e]; rfl, by rw [e]; rfl, by omega, by rw [e]; simp [AObj.cells], by rw [e]; exact .nil⟩
        · have hpos : 0 < len * ke.length := Nat.mul_pos (by omega) hl.2
          obtain ⟨v0, hv0, _⟩ := r3 0 l[0] (by rw [List.getElem?_eq_getElem])
          rw [Nat.zero_mul, Nat.zero_add] at hv0
          have hpl := fun j => cell_plain hv0 j
          obtain ⟨k1, k2, k3⟩ := g3.view (.view l) ⟨a.block, a.off, cap, 0, false, false⟩ rfl
            ⟨_, upd_same _ _ _, rfl, rfl, by simp, fun _ => (hpl 0).2.1, fun j s hj => by
              obtain ⟨v, hv, hr⟩ := r3 j s hj
              rw [Nat.zero_mul, Nat.zero_add] at hv
              refine ⟨v, by rw [← (hpl j).1]; exact hv, hr.mono ?_⟩
              intro i Li hi
              have : i ≠ H.length := by rintro rfl; rw [g3.fresh _ (Nat.le_refl _)] at hi; simp at hi
              exact ⟨Li, by rw [upd_ne _ _ this, hi], .inl rfl⟩⟩ g4
          refine ⟨[.view l], _, .sl H.length 0 0 len, ?_, ⟨_, some a, cap, upd_same _ _ _, rfl, by simp, hlc, by omega, by simp, fun _ => ?_⟩, k1, k2, k3⟩
          · have e : hg (H ++ [AObj.view l]) H.length = .view l := by rw [hg_append, if_pos rfl]
            exact .inr ⟨H.length, len, rfl, by simp, by rw [e]; rfl, by rw [e]; rfl, by omega, by rw [e]; exact r1, by rw [e]; exact r2⟩
          · rw [if_neg (by simp)]
            exact ⟨a, rfl, fun _ => (hpl 0).2.2, by simp, by simp⟩
      · simp at hf
theorem slice_all {t e : TypeId} {ke : List K} (hu : P.underlying t = some (.slice e)) (hk : flK P 20 e = some ke) (hl : ke.length = P.cellsOf e ∧ 0 < ke.length) {fuel : Nat} {cs : List Value} :
    ∀ (n i : Nat) (xs : List (DataW T × List MemPlace)), ((List.range' i n).mapM fun i => DataW.trod enc P w 0 (fun _ => true) true fuel t ((cs.drop (i * 1)).take 1)) = some xs → ∀ {ρ : Ro} {H : AH}, HR ρ w H → (∀ i, (hg H i).owned = false) →
      ∃ (X : AH) (ρ' : Ro) (l : List Sc), l.length = n ∧ (∀ s ∈ l, SlOk ke s (H ++ X)) ∧ L2 (SRel ρ') l ((cs.drop i).take n) ∧ HR ρ' w (H ++ X) ∧ Stab ρ ρ' ∧ ∀ i, (hg (H ++ X) i).owned = false := by
  intro n
  induction n with
  | zero => intro i xs _ ρ H g3 g4; exact ⟨[], ρ, [], rfl, by simp, by simp; exact .nil, by simpa using g3, Stab.refl ρ, by simpa using g4⟩
  | succ n ih =>
    intro i xs h ρ H g3 g4
    simp only [List.range'_succ, List.mapM_cons, Option.bind_eq_bind, Option.bind_eq_some_iff, Option.pure_def, Option.some.injEq] at h
    obtain ⟨x, hx, ys, hy, rfl⟩ := h
    obtain ⟨v, hv, X, ρ1, s, k1, k2, k3, k4, k5⟩ := slice_one hu hk hl hx g3 g4
    obtain ⟨Y, ρ2, l, m1, m2, m3, m4, m5, m6⟩ := ih (i + 1) ys hy k3 k5
    rw [List.append_assoc] at m2 m4 m6
    refine ⟨X ++ Y, ρ2, s :: l, by simp [m1], fun u hu => ?_, ?_, m4, k4.trans m5, m6⟩
    · rcases List.mem_cons.1 hu with rfl | hu
      · rw [← List.append_assoc]; exact k1.app
      · exact m2 u hu
    · rw [Nat.mul_one] at hv
      have e : (cs.drop i).take (n + 1) = v :: (cs.drop (i + 1)).take n := by
        have e1 : cs.drop i = v :: cs.drop (i + 1) := by
          have := List.take_append_drop 1 (cs.drop i)
          rw [hv, List.drop_drop] at this
          exact this.symm
        rw [e1, List.take_succ_cons]
      rw [e]
      exact .cons (k2.mono m5) m3
theorem args_rel : ∀ (ts : List TypeId) (pars : List Par) (vs : List Value) (ds : List (DataW T)) (ps : List MemPlace), parsT P ts = some pars → DataW.TrodAll enc P w 0 (fun _ => true) true ts vs ds ps →
    (∀ (j : Nat) t v, ts[j]? = some t → vs[j]? = some v → ∃ base, Value.okWide P w .any base t v) →
    ds.length = pars.length ∧ ∃ H ρ avs, SigA pars avs H ∧ L2 (VRel ρ) avs vs ∧ HR ρ w H ∧ ∀ i, (hg H i).owned = false := by
  intro ts
  induction ts with
  | nil =>
    intro pars vs ds ps hp h _
    simp [parsT] at hp; subst hp
    obtain ⟨rfl, rfl, rfl⟩ := ChangeShapes.trodAll_nil h
    exact ⟨rfl, [], ρ0, [], trivial, .nil, HR.nil w, fun i => by rw [hg_ge _ (Nat.zero_le _)]; rfl⟩
  | cons t ts ih =>
    intro pars vs ds ps hp h hok
    simp only [parsT] at hp
    split at hp <;> simp at hp
    rename_i par pars' hp1 hp2
    subst hp
    obtain ⟨v, vs', d, ds', p, q, rfl, rfl, rfl, h1, h2⟩ := ChangeShapes.trodAll_cons h
    obtain ⟨e0, H, ρ, avs, g1, g2, g3, g4⟩ := ih _ _ _ _ hp2 h2 fun j t v h1 h2 => hok (j + 1) t v (by simpa using h1) (by simpa using h2)
    obtain ⟨base, hv⟩ := hok 0 t v rfl rfl
    refine ⟨by simp [e0], ?_⟩
    obtain ⟨fuel, hf⟩ := h1
    unfold parT at hp1
    have flat : ∀ (b : Bool), (flK P 20 t).map (.fl b) = some par → (b = true → ∃ cs, v = .agg cs) → (b = false → ∃ u, v.cells.toList = [u] ∧ v = u) →
        ∃ H ρ avs, SigA (par :: pars') avs H ∧ L2 (VRel ρ) avs (v :: vs') ∧ HR ρ w H ∧ ∀ i, (hg H i).owned = false := by
      intro b hb h1 h2
      simp only [Option.map_eq_some_iff] at hb
      obtain ⟨ks, hk, rfl⟩ := hb
      obtain ⟨_, l, h3, h4⟩ := trod_fl (ρ := ρ) fuel 20 t _ _ ks hk hf
      cases b with
      | true =>
        obtain ⟨cs, rfl⟩ := h1 rfl
        exact ⟨H, ρ, .g l :: avs, ⟨h3, g1⟩, .cons ⟨cs.toList, by simp, h4⟩ g2, g3, g4⟩
      | false =>
        obtain ⟨u, e1, rfl⟩ := h2 rfl
        rw [e1] at h4
        cases h4 with
        | cons h5 h6 => cases h6; exact ⟨H, ρ, .c _ :: avs, ⟨h3, g1⟩, .cons h5 g2, g3, g4⟩
    split at hp1
    · rename_i e hu
      simp only [Option.bind_eq_some_iff] at hp1
      obtain ⟨ke, hk, hp1⟩ := hp1
      split at hp1 <;> simp at hp1
      rename_i hl
      subst hp1
      obtain ⟨a0, len, cap, rfl⟩ := WideShapes.okWide_slice hu hv
      cases fuel with
      | zero => simp [DataW.trod] at hf
      | succ fuel =>
        cases a0 with
        | none =>
          cases len <;> cases cap <;> simp [DataW.trod, hu, Value.cells] at hf
          exact ⟨H, ρ, .c .nils :: avs, g1, .cons rfl g2, g3, g4⟩
        | some a =>
          simp only [DataW.trod, hu, Value.cells] at hf
          split at hf
          · rename_i hc
            obtain ⟨_, hlc, hcm⟩ := hc
            have hcm' : cap ≤ 9223372036854775807 := hcm
            simp only [Option.bind_eq_some_iff] at hf
            obtain ⟨xs, hx, _⟩ := hf
            rw [List.range_eq_range'] at hx
            obtain ⟨l, r1, r2, r3⟩ := sl_rows (ρ := ρ) hk hl.1 len 0 xs hx
            by_cases hn : len = 0
            · subst hn
              have hn' : l = [] := List.eq_nil_of_length_eq_zero (by rw [r1]; simp)
              subst hn'
              obtain ⟨k1, k2, k3⟩ := g3.view .dead ⟨0, 0, 0, 1, false, false⟩ rfl trivial g4
              refine ⟨H ++ [.dead], _, .c (.sl H.length 0 0 0) :: avs, ?_, .cons ⟨_, _, _, upd_same _ _ _, rfl, by simp, by omega, by omega, by simp, by simp⟩ (g2.mono fun _ _ h => h.mono k2), k1, k3⟩
              have e : hg (H ++ [AObj.dead]) H.length = .dead := by rw [hg_append, if_pos rfl]
              exact ⟨by simp, by rw [e]; rfl, by rw [e]; rfl, by omega, by rw [e]; simp [AObj.cells], by rw [e]; exact .nil, g1.app⟩
            · have hpos : 0 < len * ke.length := Nat.mul_pos (by omega) hl.2
              obtain ⟨v0, hv0, _⟩ := r3 0 l[0] (by rw [List.getElem?_eq_getElem])
              rw [Nat.zero_mul, Nat.zero_add] at hv0
              have hpl := fun j => cell_plain hv0 j
              obtain ⟨k1, k2, k3⟩ := g3.view (.view l) ⟨a.block, a.off, cap, 0, false, false⟩ rfl
                ⟨_, upd_same _ _ _, rfl, rfl, by simp, fun _ => (hpl 0).2.1, fun j s hj => by
                  obtain ⟨v, hv, hr⟩ := r3 j s hj
                  rw [Nat.zero_mul, Nat.zero_add] at hv
                  refine ⟨v, by rw [← (hpl j).1]; exact hv, hr.mono ?_⟩
                  intro i Li hi
                  have : i ≠ H.length := by rintro rfl; rw [g3.fresh _ (Nat.le_refl _)] at hi; simp at hi
                  exact ⟨Li, by rw [upd_ne _ _ this, hi], .inl rfl⟩⟩ g4
              refine ⟨H ++ [.view l], _, .c (.sl H.length 0 0 len) :: avs, ?_, .cons ⟨_, some a, cap, upd_same _ _ _, rfl, by simp, hlc, by omega, by simp, fun _ => ?_⟩ (g2.mono fun _ _ h => h.mono k2), k1, k3⟩
              · have e : hg (H ++ [AObj.view l]) H.length = .view l := by rw [hg_append, if_pos rfl]
                exact ⟨by simp, by rw [e]; rfl, by rw [e]; rfl, by omega, by rw [e]; exact r1, by rw [e]; exact r2, g1.app⟩
              · rw [if_neg (by simp)]
                exact ⟨a, rfl, fun _ => (hpl 0).2.2, by simp, by simp⟩
          · simp at hf
    · rename_i hu
      exact flat true hp1 (fun _ => by simp only [Value.okWide, hu] at hv; obtain ⟨cs, rfl, _⟩ := hv; exact ⟨cs, rfl⟩) (by simp)
    · rename_i m e hu
      obtain ⟨cs, rfl⟩ : ∃ cs, v = .agg cs := by simp only [Value.okWide, hu] at hv; obtain ⟨cs, rfl, _⟩ := hv; exact ⟨cs, rfl⟩
      split at hp1
      · rename_i e' hue
        simp only [Option.bind_eq_some_iff] at hp1
        obtain ⟨ke, hk, hp1⟩ := hp1
        split at hp1 <;> simp at hp1
        rename_i hl
        obtain ⟨hl1, hl2, hl3, hl4⟩ := hl
        subst hp1
        cases fuel with
        | zero => simp [DataW.trod] at hf
        | succ fuel =>
          simp only [DataW.trod, hu, Value.cells] at hf
          split at hf
          · rename_i hcl
            simp only [Option.map_eq_some_iff] at hf
            obtain ⟨xs, hx, _⟩ := hf
            rw [List.range_eq_range', hl3] at hx
            obtain ⟨X, ρ', l, m1, m2, m3, m4, m5, m6⟩ := slice_all hue hk ⟨hl1, hl2⟩ m 0 xs hx g3 g4
            rw [List.drop_zero, List.take_of_length_le (by omega)] at m3
            exact ⟨H ++ X, ρ', .g l :: avs, ⟨m1, m2, g1.app⟩, .cons ⟨cs.toList, by simp, m3⟩ (g2.mono fun _ _ h => h.mono m5), m4, m6⟩
          · simp at hf
      · exact flat true hp1 (fun _ => ⟨cs, rfl⟩) (by simp)
    · rename_i hu
      exact flat false hp1 (by simp) (fun _ => by obtain ⟨n, rfl⟩ := WideShapes.okWide_int hu hv; exact ⟨_, rfl, rfl⟩)
    · rename_i hu
      exact flat false hp1 (by simp) (fun _ => by obtain ⟨n, rfl⟩ := WideShapes.okWide_bool hu hv; exact ⟨_, rfl, rfl⟩)
    · rename_i hu
      exact flat false hp1 (by simp) (fun _ => by obtain ⟨n, rfl⟩ := WideShapes.okWide_string hu hv; exact ⟨_, rfl, rfl⟩)
    · simp at hp1

theorem trodAll_stays (hl : laidOutB P = true) {W W' : World} {sp' : Nat → Bool} : ∀ {ts : List TypeId} {vs : List Value} {ds : List (DataW T)} {ps : List MemPlace}, (∀ t ∈ ts, P.readableRec t = true ∧ t < P.types.size) →
    DataW.TrodAll enc P W 0 (fun _ => true) true ts vs ds ps → (∀ p ∈ ps, W.sameAt W' p) → (∀ p ∈ ps, sp' p.block = true) → DataW.TrodAll enc P W' 0 sp' true ts vs ds ps := by
  intro ts
  induction ts with
  | nil =>
    intro vs ds ps _ h _ _
    obtain ⟨rfl, rfl, rfl⟩ := ChangeShapes.trodAll_nil h
    rfl
  | cons t ts ih =>
    intro vs ds ps hr h hs hp
    obtain ⟨v, vs', d, ds', p, q, rfl, rfl, rfl, h1, h2⟩ := ChangeShapes.trodAll_cons h
    obtain ⟨r1, r2⟩ := hr t (List.mem_cons_self ..)
    exact ⟨p, q, WideElems.Trod_stays hl r1 r2 h1 (fun x hx => hs x (List.mem_append_left _ hx)) (fun x hx => hp x (List.mem_append_left _ hx)),
      ih (fun t ht => hr t (List.mem_cons_of_mem _ ht)) h2 (fun x hx => hs x (List.mem_append_right _ hx)) (fun x hx => hp x (List.mem_append_right _ hx)), rfl⟩
end

theorem law_post {H : Type} {enc : TypeId × Value → H} {C : Checked} {f : FuncId} {fn : Func} {s : ChangeSpec} {pars : List Par} {sf : List AV → AH → Option AV} {tb : TypeId} {apart fresh handsOn again : Bool}
    (hc : FpOk C.prog f fun a H => (sf a H).map fun v => (v, H)) (hs : ∀ avs H, SigA pars avs H → sf avs H = some (.c (.b true)))
    (hp : parsT C.prog fn.params.toList = some pars) (hl : laidOutB C.prog = true) (hr : (fn.params.toList.all fun t => C.prog.readableRec t && decide (t < C.prog.types.size)) = true)
    (hres : fn.resultTypes = #[tb]) (hb : C.prog.underlying tb = some .bool) (hv : s.vars = [])
    (hfn : ∀ ds : List (DataW H), ds.length = pars.length → s.fn H ds = { results := [.lit (.bool true)], args := ds })
    (W : World) (base : Nat) (args : Array Value) (ds gs : List (DataW H)) (before : List MemPlace)
    (hval : ∀ (j : Nat) t v, fn.params[j]? = some t → args[j]? = some v → Value.okWide C.prog W .any base t v)
    (hW : DataW.Whole enc C.prog fn.params.toList s.vars apart W args.toList ds gs before) :
    Calls C.prog f args W fun e W' => ∃ v, e = .returned v ∧ s.post enc C.prog fn apart fresh handsOn again W args v W' := by
  have hW' := hW
  obtain ⟨p, q, hA, hV, rfl, hfz, hnd⟩ := hW
  rw [hv] at hV
  obtain ⟨rfl, rfl⟩ := ChangeShapes.trodVars_none hV
  obtain ⟨hlen, Hh, ρ, avs, h1, h2, h3, h4⟩ := args_rel (w := W) _ _ _ _ _ hp hA fun j t v e1 e2 => ⟨base, hval j t v (by simpa using e1) (by simpa using e2)⟩
  have hsf := hs avs Hh h1
  have hcall := hc.runs avs Hh (.c (.b true)) Hh (by simp [hsf]) ρ W args.toList h2 h3
  rw [Array.toArray_toList] at hcall
  refine hcall.mono fun e W' ⟨vc, ρ', he, hvc, _, _, hk, _⟩ => ?_
  have hvb : vc = .bool true := hvc
  subst hvb
  have hnone : ∀ b, ¬ Owns ρ Hh b := by rintro b ⟨i, L, o1, _⟩; rw [h4 i] at o1; simp at o1
  have hk' : Keep W (fun _ => False) W' := ⟨hk.os, hk.tape, hk.output, hk.size, fun b hb _ => hk.old b hb (hnone b), fun b c t f hf hm => hk.free b c t f hf (hm.imp (fun x => x) (fun x => x.elim))⟩
  have hg := hk'.grown
  have hblk : ∀ x ∈ p ++ [], W.sameAt W' x := fun x hx => by
    have hlt := hW'.lt x hx
    exact RowKit.Below.same (w' := W') ⟨hk'.os, hk'.tape, hk'.output, hk'.size, fun k hk2 => hk'.old k hk2 (fun f => f)⟩ hlt
  have hr' : ∀ t ∈ fn.params.toList, C.prog.readableRec t = true ∧ t < C.prog.types.size := by
    intro t ht
    have := List.all_eq_true.1 hr t ht
    simpa using this
  refine ⟨.bool true, he, ChangeShapes.post_of_same (pa := p) (pv := []) hW' ?_ ?_ ?_ rfl (hg.frame _) hg.2.1 (RowKit.ok_one hres rfl (RowKit.okWide_bool_mk hb _))⟩
  · intro b sp hd
    rw [hfn (ds ++ []) (by simpa using hlen), hres]
    exact trodAll_cons_mk (RowKit.shut_bool hb true) ChangeShapes.trodAll_mk0
  · intro sp hsp
    rw [hfn (ds ++ []) (by simpa using hlen), List.append_nil]
    exact trodAll_stays hl hr' hA (fun x hx => hblk x (by simpa using hx)) (fun x hx => hsp x (by simpa using hx))
  · intro sp _
    rw [hv, hfn (ds ++ []) (by simpa using hlen)]; rfl

theorem PuOk.fq {f : Nat} {s : List AV → Option AV} (h : PuOk P f s) : FpOk P f fun a H => (s a).map fun v => (v, H) := by
  refine ⟨h.enters, fun args H v H' hs => ?_, fun args H v H' hs ρ w cs hcs hH => ?_⟩
  · simp only [Option.map_eq_some_iff, Prod.mk.injEq] at hs; obtain ⟨_, _, _, rfl⟩ := hs; exact Nat.le_refl _
  · simp only [Option.map_eq_some_iff, Prod.mk.injEq] at hs
    obtain ⟨v', h1, rfl, rfl⟩ := hs
    refine (h.pure args v' h1 ρ w cs hcs).mono fun e w' ⟨vc, he, hv, hk⟩ => ?_
    exact ⟨vc, ρ, he, hv ρ, hH.keep hk, Stab.refl ρ, ⟨hk.os, hk.tape, hk.output, hk.size, fun b hb _ => hk.old b hb (fun f => f), fun b c t f hf hm => by
      rcases hm with hm | hm
      · exact hk.free b c t f hf (.inl hm)
      · rcases Nat.lt_or_ge b w.heap.size with hlt | hge
        · rw [hk.old b hlt (fun f => f)] at hf; exact hH.frozen b c t f hf hm
        · exact hk.free b c t f hf (.inl hge)⟩, fun b hb => .inl hb⟩

theorem sig_nil {avs : List AV} {H : AH} (h : SigA [] avs H) : avs = [] := by
  cases avs with
  | nil => rfl
  | cons a r => simp [SigA] at h
theorem sig_g {ks : List K} {ps : List Par} {avs : List AV} {H : AH} (h : SigA (.fl true ks :: ps) avs H) : ∃ l r, avs = .g l :: r ∧ L2 FitK l ks ∧ SigA ps r H := by
  cases avs with
  | nil => simp [SigA] at h
  | cons a r => cases a <;> simp [SigA] at h; exact ⟨_, r, rfl, h⟩
theorem sig_sl {ks : List K} {ps : List Par} {avs : List AV} {H : AH} (h : SigA (.sl ks :: ps) avs H) : ∃ r, SigA ps r H ∧ (avs = .c .nils :: r ∨ ∃ id n, avs = .c (.sl id 0 0 n) :: r ∧
    id < H.length ∧ (hg H id).row = 0 ∧ (hg H id).owned = false ∧ n ≤ 9223372036854775807 ∧ (hg H id).cells.length = n * ks.length ∧ L2 FitK (hg H id).cells (List.replicate n ks).flatten) := by
  cases avs with
  | nil => simp [SigA] at h
  | cons a r =>
    cases a with
    | c s =>
      cases s with
      | nils => exact ⟨r, by simpa [SigA] using h, .inl rfl⟩
      | sl id off ver n =>
        cases off <;> cases ver <;> simp [SigA] at h
        obtain ⟨h1, h2, h3, h4, h5, h6, h7⟩ := h
        exact ⟨r, h7, .inr ⟨id, n, rfl, h1, h2, h3, h4, h5, h6⟩⟩
      | _ => simp [SigA] at h
    | g l => simp [SigA] at h
    | t l => simp [SigA] at h
theorem fk_i {s : Sc} (h : FitK s (.n .i64)) : ∃ x, s = .i x ∧ -9223372036854775808 ≤ x ∧ x ≤ 9223372036854775807 := by
  cases s with
  | i x => exact ⟨x, rfl, h⟩
  | k kd x => simp only [FitK] at h; obtain ⟨rfl, h, _⟩ := h; simp [IntKind.bits] at h
  | _ => simp [FitK] at h
theorem fk_u {s : Sc} (h : FitK s (.n .u64)) : ∃ x, s = .u x := by
  cases s with
  | u x => exact ⟨x, rfl⟩
  | k kd x => simp only [FitK] at h; obtain ⟨rfl, h, _⟩ := h; simp [IntKind.bits] at h
  | _ => simp [FitK] at h
theorem fk_q {s : Sc} (h : FitK s .q) : ∃ x, s = .b x := by
  unfold FitK at h; split at h <;> simp_all
theorem fit_cons {l : List Sc} {k : K} {ks : List K} (h : L2 FitK l (k :: ks)) : ∃ s r, l = s :: r ∧ FitK s k ∧ L2 FitK r ks := by
  cases h with
  | cons h1 h2 => exact ⟨_, _, rfl, h1, h2⟩
theorem fit_nil {l : List Sc} (h : L2 FitK l []) : l = [] := by cases h; rfl

end Go.Am
