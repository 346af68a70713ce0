/- Layer 12: locks that are copied: contracts. -/
import Derived.Test.YthfccacopffkgaaLk9
namespace Go.Proofs.Ythfccacopffkgaa
open Go.Am
set_option linter.unusedSimpArgs false
set_option linter.unusedVariables false
noncomputable section
set_option maxRecDepth 100000

section
variable {H : AH} {D : Ld}
/-- a copy: of its own -/
structure LCp (H H1 : AH) (D E : Ld) : Prop where
  li : LI H1 E
  len : H.length ≤ H1.length
  old : ∀ i, i < H.length → hg H1 i = hg H i
  ids : ∀ i ∈ E.ids, H.length ≤ i
  s : E.S = D.S
/-- a copy under way: of the entries that were seen -/
structure LPr (H K : AH) (D E : Ld) (s : List Nat) : Prop where
  li : LI K E
  old : ∀ i, i < H.length → hg K i = hg H i
  len : H.length + 3 ≤ K.length
  ids : ∀ i ∈ E.ids, H.length ≤ i ∧ i ≠ H.length + 2
  n : E.n = D.n
  p : E.p = H.length + 1
  it : hg K (H.length + 2) = .iter D.m D.clk s D.clk
  fd : ∀ k, enS (fdK E.es k) = match fdK D.es k with | some e => if e.b ∈ s then (e.h, e.q) else (-1, []) | none => (-1, [])
theorem fd_of (h : LI H D) {e : En} (he : e ∈ D.es) : fdK D.es e.k = some e := by
  cases hf : fdK D.es e.k with
  | none => exact absurd rfl (fdK_none hf e he)
  | some f =>
    obtain ⟨h1, h2⟩ := fdK_some hf
    obtain ⟨i, hi, rfl⟩ := List.mem_iff_getElem.1 h1
    obtain ⟨j, hj, rfl⟩ := List.mem_iff_getElem.1 he
    have := (List.getElem_inj (i := i) (j := j) (h₀ := by simpa using hi) (h₁ := by simpa using hj) h.kd).1 (by simpa using h2)
    subst this; rfl
theorem enS_free {D : Ld} {K : AH} (h : LI K D) {k : Int} (he : enS (fdK D.es k) = (-1, [])) : fdK D.es k = none := by
  cases hf : fdK D.es k with
  | none => rfl
  | some e =>
    rw [hf] at he
    have := (h.ok e (fdK_some hf).1).h0
    simp only [enS, Prod.mk.injEq] at he
    omega
theorem LPr.step {K : AH} {E : Ld} {s : List Nat} (h : LI H D) (hP : LPr H K D E s) {e : En} (he : e ∈ D.es) (hs : e.b ∉ s) (K1 : AH)
    (hK1 : K1 = ((K.set (H.length + 2) (AObj.iter D.m D.clk (s ++ [e.b]) D.clk) ++ [AObj.vec 1 (e.q.flatMap encI), AObj.own [.i e.h, .sl K.length 0 e.q.length e.q.length]]).set E.m (.map (E.clk + 1) (E.es.map enM ++ [(E.clk, .c (.i e.k), .c (.p (K.length + 1) 0 0))])))) :
    ∃ F, LPr H K1 D F (s ++ [e.b]) := by
  have hE := hP.li
  have lm := hE.lt (show E.m ∈ E.ids by simp [Ld.ids])
  have mne := (hP.ids E.m (by simp [Ld.ids])).2
  have hl := hP.len
  have ok := h.ok e he
  have fe := fd_of h he
  have hfree : fdK E.es e.k = none := enS_free hE (by rw [hP.fd, fe]; simp [hs])
  have hge := (hP.ids E.m (by simp [Ld.ids])).1
  subst hK1
  have lenK : (K.set (H.length + 2) (AObj.iter D.m D.clk (s ++ [e.b]) D.clk)).length = K.length := by simp
  have hfr : LI (K.set (H.length + 2) (AObj.iter D.m D.clk (s ++ [e.b]) D.clk)) E := hE.frame fun i hi => hg_set_ne' (fun c => (hP.ids i hi).2 c.symm)
  obtain ⟨m1, m2, m3⟩ := hfr.more (K := ((K.set (H.length + 2) (AObj.iter D.m D.clk (s ++ [e.b]) D.clk) ++ [AObj.vec 1 (e.q.flatMap encI), AObj.own [.i e.h, .sl K.length 0 e.q.length e.q.length]]).set E.m (.map (E.clk + 1) (E.es.map enM ++ [(E.clk, AV.c (.i e.k), AV.c (.p (K.length + 1) 0 0))]))))
    (f := ⟨E.clk, e.k, K.length + 1, e.h, .sl K.length 0 e.q.length e.q.length, e.q⟩) (by simp) (fun i hi hne => by rw [hg_set_ne' (fun c => hne c.symm), hg_lt' hi]) (by rw [hg_set_same (by simp; omega)]; rfl) hfree rfl (by simp)
    (by show hg _ (K.length + 1) = _; rw [hg_set_ne' (by omega)]; have := hg_len_add (H := K.set (H.length + 2) (AObj.iter D.m D.clk (s ++ [e.b]) D.clk)) (X := [AObj.vec 1 (e.q.flatMap encI), AObj.own [.i e.h, .sl K.length 0 e.q.length e.q.length]]) (n := 1); rw [lenK] at this; rw [this]; rfl)
    (.inr ⟨K.length, rfl, by rw [hg_set_ne' (by omega)]; have := hg_len (H := K.set (H.length + 2) (AObj.iter D.m D.clk (s ++ [e.b]) D.clk)) (X := [AObj.vec 1 (e.q.flatMap encI), AObj.own [.i e.h, .sl K.length 0 e.q.length e.q.length]]); rw [lenK] at this; rw [this]; rfl⟩)
    (fun i hi => by simp only [sidI, Option.some.injEq] at hi; subst hi; exact ⟨by simp, by simp⟩) ⟨Nat.lt_succ_self _, ok.k0, by rw [hP.n]; exact ok.kn, ok.h0, ok.h8, ok.q, ok.nd⟩
  refine ⟨_, ⟨m1, fun i hi => ?_, by simp; omega, fun i hi => ?_, hP.n, hP.p, ?_, fun k => ?_⟩⟩
  · rw [hg_set_ne' (by omega), hg_lt' (by simp; omega), hg_set_ne' (by omega), hP.old i hi]
  · rcases m2.ids i hi with g | g
    · exact hP.ids i g
    · rw [lenK] at g; exact ⟨by omega, by omega⟩
  · rw [hg_set_ne' mne, hg_lt' (by simp; omega), hg_set_same (by omega)]
  · show enS (fdK (E.es ++ [_]) k) = _
    have fa : ∀ f : En, fdK (E.es ++ [f]) k = (fdK E.es k).or (if f.k = k then some f else none) := fun f => by
      unfold fdK
      rw [List.find?_append, List.find?_cons]
      by_cases c : f.k = k <;> simp [c]
    rw [fa]
    by_cases ck : e.k = k
    · subst ck
      rw [hfree, fe]
      simp [enS]
    · rw [if_neg ck, Option.or_none, hP.fd k]
      cases hf : fdK D.es k with
      | none => rfl
      | some e2 =>
        have hne : e2.b ≠ e.b := by
          intro hb
          have h2 := (fdK_some hf)
          obtain ⟨i, hi, rfl⟩ := List.mem_iff_getElem.1 h2.1
          obtain ⟨j, hj, rfl⟩ := List.mem_iff_getElem.1 he
          have := (List.getElem_inj (i := i) (j := j) (h₀ := by simpa using hi) (h₁ := by simpa using hj) h.bd).1 (by simpa using hb)
          subst this
          exact ck h2.2
        simp [hne]
theorem LPr.fin {K : AH} {E : Ld} {s : List Nat} (h : LI H D) (hP : LPr H K D E s) (ha : ∀ e ∈ D.es, e.b ∈ s) : LCp H K D E := by
  refine ⟨hP.li, by have := hP.len; omega, hP.old, fun i hi => (hP.ids i hi).1, ?_⟩
  unfold Ld.S
  rw [hP.n]
  refine List.map_congr_left fun k _ => ?_
  rw [hP.fd]
  cases hf : fdK D.es (k : Int) with
  | none => rfl
  | some e => simp [ha e (fdK_some hf).1, enS]
theorem pig {n : Nat} : ∀ {l : List Int}, l.Nodup → (∀ w ∈ l, 0 ≤ w ∧ w < n) → l.length ≤ n := by
  induction n with
  | zero => intro l _ hl; cases l with
    | nil => simp
    | cons a l => have := hl a (by simp); omega
  | succ n ih =>
    intro l hn hl
    have := ih (l := l.erase (n : Int)) (hn.erase _) (fun w hw => by
      have a := hl w (List.mem_of_mem_erase hw)
      have b : w ≠ (n : Int) := fun e => by subst e; exact (List.Nodup.not_mem_erase hn) hw
      omega)
    rw [List.length_erase] at this
    split at this <;> omega
theorem LI.few (h : LI H D) : D.es.length ≤ 128 := by
  have := pig (n := D.n.toNat) h.kd (fun w hw => by
    obtain ⟨e, he, rfl⟩ := List.mem_map.1 hw
    have := h.ok e he
    have a := this.k0
    have b := this.kn
    omega)
  rw [List.length_map] at this
  have := h.n128
  have := h.n1
  omega
theorem getL_cases (fr : Fr) (s : Nat) : Am.get fr s = .c .any ∨ ∃ p ∈ fr, p.1 = s ∧ Am.get fr s = p.2 := by
  induction fr with
  | nil => exact .inl rfl
  | cons a r ih =>
    obtain ⟨d, v⟩ := a
    by_cases h : d = s
    · exact .inr ⟨(d, v), by simp, h, by simp [Am.get, h]⟩
    · have e : Am.get ((d, v) :: r) s = Am.get r s := by simp [Am.get, h]
      rw [e]
      rcases ih with h1 | ⟨p, h1, h2, h3⟩
      · exact .inl h1
      · exact .inr ⟨p, by simp [h1], h2, h3⟩
theorem wkFL {n : Nat} {fr fr' : Fr} {H : AH} (hf : ∀ p ∈ fr', Am.get fr p.1 = p.2) : Wk n fr H (fr', H) := fun ρ w tm h1 h2 =>
  ⟨ρ, fun s => by
    show VRel ρ (Am.get fr' s) (tm s)
    rcases getL_cases fr' s with e | ⟨p, hp, rfl, e⟩
    · rw [e]; exact trivial
    · rw [e, ← hf p hp]; exact h1 p.1, h2, fun i _ hi hL _ => ⟨i, hi, hL⟩, fun _ _ => rfl⟩
open Classical in
def s_lclo (args : List AV) (H : AH) : Option (AV → AH → Prop) :=
  match args with
  | [.c .nilp] => some fun v H1 => v = .c .nilp ∧ H1 = H
  | [.c (.p p 0 0)] => if ∃ D, LI H D ∧ D.p = p then some fun v H1 => ∀ D, LI H D → D.p = p → ∃ E, v = .c (.p E.p 0 0) ∧ LCp H H1 D E else none
  | _ => none
theorem s_lclo_nil : s_lclo [.c .nilp] H = some fun v H1 => v = .c .nilp ∧ H1 = H := rfl
theorem s_lclo_eq (h : LI H D) : s_lclo [.c (.p D.p 0 0)] H = some fun v H1 => ∀ E, LI H E → E.p = D.p → ∃ F, v = .c (.p F.p 0 0) ∧ LCp H H1 E F := by
  unfold s_lclo
  exact if_pos ⟨D, h, rfl⟩
set_option maxRecDepth 100000 in
set_option maxHeartbeats 2000000 in
theorem ok_lclo : FrOk Try.prog 23 s_lclo := by
  refine fr_ok (s := s_lclo) (tab := [(32, .fp s_lclone)]) hmix (TabOk.cons (e := .fp s_lclone) ok_lclone TabOk.nil) Try.func23 rfl Try.results23 Try.ntmps23 (by kernel_rfl) (by kernel_rfl) ?_
  intro args H R h hargs hH
  unfold s_lclo at h
  split at h
  · simp only [Option.some.injEq] at h
    subst h
    refine ⟨by simp only [List.length_cons, List.length_nil]; decide, ?_⟩
    (try simp (config := { maxSteps := 10000000 }) only [go_sem, seval]; repeat (simp (disch := omega) only [w64_d, ipos, ineg, dpos, dneg]; try simp (config := { maxSteps := 10000000 }) only [go_sem, seval]))
    exact ⟨_, _, ⟨rfl, rfl⟩, fin_same⟩
  · rename_i p
    split at h
    · rename_i hD
      obtain ⟨D, hL, rfl⟩ := hD
      simp only [Option.some.injEq] at h
      subst h
      refine ⟨by simp only [List.length_cons, List.length_nil]; decide, ?_⟩
      have hp := fun X => (hL.app X).hp
      have hm := fun X => (hL.app X).hm
      have hp0 := hL.hp
      have hm0 := hL.hm
      have lL : (D.es.map enM).length ≤ 9223372036854775807 := by rw [List.length_map]; have := hL.few; omega
      (try simp (config := { maxSteps := 10000000 }) only [go_sem, seval, hp0, hm0, hp, hm]; repeat (simp (disch := omega) only [w64_d, ipos, ineg, dpos, dneg]; try simp (config := { maxSteps := 10000000 }) only [go_sem, seval, hp0, hm0, hp, hm]))
      (repeat' first | apply And.intro | (intro _; kernel_rfl) | kernel_rfl)
      have lm := hL.lt (show D.m ∈ D.ids by simp [Ld.ids])
      obtain ⟨n1, n2⟩ := LI.new (H := H) hL.n1 hL.n128
      rw [arun_loop]
      refine ⟨{x : AH × Ld × List Nat // LPr H x.1 D x.2.1 x.2.2}, fun x => ([(3, .c (.p (H.length + 1) 0 0)), (24, .c (.p (H.length + 2) 0 0))], x.1.1), fun x => uns D.es x.1.2.2,
        ⟨(H ++ [.map 0 [], .own [.i D.n, .mp H.length], .iter D.m D.clk [] D.clk], ⟨H.length + 1, H.length, D.n, 0, []⟩, []), ?_⟩, wkFL (by simp [Am.get]), ?_⟩
      · refine ⟨by have := n1.app [.iter D.m D.clk [] D.clk]; rwa [List.append_assoc] at this, fun i hi => hg_lt' hi, by simp, fun i hi => ?_, rfl, rfl, by rw [hg_len_add]; rfl, fun k => ?_⟩
        · simp only [Ld.ids, List.flatMap_nil, List.mem_cons, List.not_mem_nil, or_false] at hi
          rcases hi with rfl | rfl <;> omega
        · simp only [fdK, List.find?_nil, enS, List.not_mem_nil, if_false]
          split <;> rfl
      · rintro ⟨⟨K, E, s⟩, hP⟩
        simp only at hP
        have hE := hP.li
        have hKm : hg K D.m = .map D.clk (D.es.map enM) := by rw [hP.old _ lm, hm0]
        (try simp (config := { maxSteps := 10000000 }) only [go_sem, seval]; repeat (simp (disch := omega) only [w64_d, ipos, ineg, dpos, dneg]; try simp (config := { maxSteps := 10000000 }) only [go_sem, seval]))
        refine nxt_next (es := D.es.map enM) (id := H.length + 2) (m := D.m) (since := D.clk) (last := D.clk) (clk := D.clk) (seen := s) (by simp [ev, Am.get]) hP.it hKm ?_ (Nat.le_refl _) ?_ ?_
        · rw [List.all_map]
          exact List.all_eq_true.2 fun e he => decide_eq_true (hL.ok e he).b
        · intro h0
          have hu := uns_0 h0
          (try simp (config := { maxSteps := 10000000 }) only [go_sem, seval]; repeat (simp (disch := omega) only [w64_d, ipos, ineg, dpos, dneg]; try simp (config := { maxSteps := 10000000 }) only [go_sem, seval]))
          refine ⟨_, K, fun D' hD' hp' => ?_, fin_same⟩
          rw [hD'.uniq hL hp', ← hP.p]
          exact ⟨E, rfl, hP.fin hL hu⟩
        · intro e' he' hne
          obtain ⟨e, he, rfl⟩ := List.mem_map.1 he'
          have hne : e.b ∉ s := hne
          have ef := ent_find hL he
          have gl : (s ++ [e.b]).getLast? = some e.b := by simp
          have ok := hL.ok e he
          obtain ⟨hl, hx⟩ := hL.he e he
          have lK := hP.len
          have mm : D.m ≠ H.length + 2 := by omega
          have gI : ∀ o, hg (K.set (H.length + 2) o) (H.length + 2) = o := fun o => hg_set_same (by omega)
          have gM : ∀ o, hg (K.set (H.length + 2) o) D.m = .map D.clk (D.es.map enM) := fun o => by rw [hg_set_ne' (by omega), hKm]
          have hfr : ∀ o, LI (K.set (H.length + 2) o) E := fun o => hE.frame fun i hi => hg_set_ne' (fun c => (hP.ids i hi).2 c.symm)
          have gP : ∀ o, hg (K.set (H.length + 2) o) (H.length + 1) = .own [.i E.n, .mp E.m] := fun o => by rw [← hP.p]; exact (hfr o).hp
          have ll := hL.lt (mem_eids he (show e.l ∈ eids e by simp [eids]))
          have gL : ∀ o, hg (K.set (H.length + 2) o) e.l = .own [.i e.h, e.x] := fun o => by rw [hg_set_ne' (by omega), hP.old _ ll, hl]
          have lEm := hE.lt (show E.m ∈ E.ids by simp [Ld.ids])
          have gE : ∀ o X, hg (K.set (H.length + 2) o ++ X) E.m = .map E.clk (E.es.map enM) := fun o X => ((hfr o).app X).hm
          have gPX : ∀ o X, hg (K.set (H.length + 2) o ++ X) (H.length + 1) = .own [.i E.n, .mp E.m] := fun o X => by rw [← hP.p]; exact ((hfr o).app X).hp
          have gLX : ∀ o X, hg (K.set (H.length + 2) o ++ X) e.l = .own [.i e.h, e.x] := fun o X => by rw [hg_lt' (by simp; omega), gL]
          have fk := findA_en (P := Try.prog) (kt := 3) (by kernel_rfl) e.k E.es 0
          rw [fdE_none (enS_free hE (by rw [hP.fd, fd_of hL he]; simp [hne]))] at fk
          have hxK : ∀ o, isx (K.set (H.length + 2) o) e.x e.q := fun o => isx_frame hx fun i hi => by
            have := (isx_lt hx hi).1
            rw [hg_set_ne' (by omega), hP.old i this]
          have hc := fun o => s_lclone_eq (isx_clone (hxK o) (by have := hL.qlen he; omega))
          simp only [List.length_set] at hc
          obtain ⟨F, hF⟩ := hP.step hL he hne _ rfl
          (try simp (config := { maxSteps := 10000000 }) only [go_sem, seval, enM, ef, gl, gI, gM, gP, gL, gE, gPX, gLX, fk, hc, List.length_set]; repeat (simp (disch := omega) only [w64_d, ipos, ineg, dpos, dneg]; try simp (config := { maxSteps := 10000000 }) only [go_sem, seval, enM, ef, gl, gI, gM, gP, gL, gE, gPX, gLX, fk, hc, List.length_set]))
          (repeat' first | apply And.intro | (intro _; kernel_rfl) | kernel_rfl)
          exact ⟨⟨(_, F, s ++ [e.b]), hF⟩, uns_lt he hne, wkFL (by simp [Am.get])⟩
    · simp at h
  · simp at h
end
end
end Go.Proofs.Ythfccacopffkgaa
