/- Layer 32: a world and memory in shards: they answer the same: plain laws. -/
import Derived.Test.YtcbhelkafelofaaGreatFlM
namespace Go.Proofs.YtcbhelkafelofaaGreat
open Go.Am
set_option linter.unusedSimpArgs false
set_option linter.unusedVariables false
noncomputable section
set_option maxRecDepth 100000

theorem killL_get {R : List Sl} {L : List (BitVec 64)} {but : Int} {j : Nat} : ∀ {k : Nat}, (killL R L but k)[j]? = if j < k ∧ killLB R L but j = true ∧ j < R.length then some z0 else R[j]?
  | 0 => by simp [killL]
  | k + 1 => by
    have ih := killL_get (R := R) (L := L) (but := but) (k := k) (j := j)
    have hl := killL_len (R := R) (L := L) (but := but) (k := k)
    simp only [killL]
    split
    · rename_i hb
      rw [List.getElem?_set]
      by_cases e : k = j
      · subst e
        rw [if_pos rfl, hl]
        by_cases h2 : k < R.length
        · rw [if_pos h2, if_pos ⟨by omega, hb, h2⟩]
        · rw [if_neg h2, if_neg (fun h => h2 h.2.2), List.getElem?_eq_none (by omega)]
      · rw [if_neg e, ih]
        by_cases h2 : j < k ∧ killLB R L but j = true ∧ j < R.length
        · rw [if_pos h2, if_pos ⟨by omega, h2.2⟩]
        · rw [if_neg h2, if_neg (fun h => h2 ⟨by omega, h.2⟩)]
    · rename_i hb
      rw [ih]
      by_cases h2 : j < k ∧ killLB R L but j = true ∧ j < R.length
      · rw [if_pos h2, if_pos ⟨by omega, h2.2⟩]
      · rw [if_neg h2, if_neg (fun h => h2 ⟨?_, h.2⟩)]
        rcases Nat.lt_or_eq_of_le (Nat.lt_succ_iff.1 h.1) with h3 | h3
        · exact h3
        · subst h3; exact (hb h.2.1).elim
theorem killB_at {R : List Sl} {l : BitVec 64} {but : Int} {j : Nat} (hj : j < 8) : killB R l but j = (!decide ((j : Int) = but) && ((R.getD j z0).is && decide ((R.getD j z0).ln = l))) := by
  unfold killB hasT
  rw [in8_k hj]
  unfold at8
  rw [if_pos (in8_k hj), Int.toNat_natCast]
  simp
theorem kill_same {but : Int} {l : List Pc} : ∀ {R : List Sl}, R.length = 8 → killL R (l.map fun p => p.a / 64#64) but 8 = kiA R l but := by
  induction l with
  | nil =>
    intro R hR
    apply List.ext_getElem?
    intro j
    rw [killL_get, if_neg (by simp [killLB])]; rfl
  | cons p l ih =>
    intro R hR
    show _ = kiA (killN R (p.a / 64#64) but 8) l but
    rw [← ih (by rw [killN_len, hR])]
    apply List.ext_getElem?
    intro j
    rw [killL_get, killL_get, killN_get, killN_len]
    by_cases hj : j < 8
    rotate_left
    · rw [if_neg (fun c => hj c.1), if_neg (fun c => hj c.1), if_neg (fun c => hj c.1)]
    obtain ⟨x, hx⟩ : ∃ x, R[j]? = some x := ⟨_, List.getElem?_eq_getElem (by omega)⟩
    have gx : R.getD j z0 = x := by rw [List.getD_eq_getElem?_getD, hx]; rfl
    have gk : (killN R (p.a / 64#64) but 8).getD j z0 = if killB R (p.a / 64#64) but j = true then z0 else x := by
      rw [List.getD_eq_getElem?_getD, killN_get, hx]
      by_cases c : killB R (p.a / 64#64) but j = true
      · rw [if_pos ⟨hj, c, by omega⟩, if_pos c]; rfl
      · rw [if_neg (fun h => c h.2.1), if_neg c]; rfl
    have kb := killB_at (R := R) (l := p.a / 64#64) (but := but) hj
    unfold killLB
    rw [gx, gk, hx]
    rw [gx] at kb
    simp only [hj, hR, true_and, and_true, List.map_cons, List.mem_cons]
    cases c : killB R (p.a / 64#64) but j
    · rw [c] at kb
      simp only [Bool.false_eq_true, if_false]
      have e : (!decide ((j : Int) = but) && (x.is && decide (x.ln = p.a / 64#64 ∨ x.ln ∈ List.map (fun p => p.a / 64#64) l))) = (!decide ((j : Int) = but) && (x.is && decide (x.ln ∈ List.map (fun p => p.a / 64#64) l))) := by
        have kb := kb.symm
        by_cases e1 : (j : Int) = but
        · simp [e1]
        · by_cases e2 : x.ln = p.a / 64#64
          · have : x.is = false := by simpa [e1, e2] using kb
            simp [this]
          · simp [e2]
      rw [e]
    · rw [c] at kb
      have kb := kb.symm
      simp only [Bool.and_eq_true, Bool.not_eq_true', decide_eq_false_iff_not, decide_eq_true_eq] at kb
      obtain ⟨e1, e2, e3⟩ := kb
      simp [e1, e2, e3, z0]
structure Rel (w : Fw) (z : ShS) : Prop where
  h : w.h = z.h
  hh : z.h ≤ 8
  n : z.ram.n ≤ 4096
  wf : wfE z.ram.n z.ram.M
  B : w.B = byN (memB z.ram.M.2) (64 * z.ram.n)
  R : w.R = z.R
  l : z.R.length = 8
  o : ∀ j : Nat, z.h ≤ (j : Int) → z.R.getD j z0 = z0
theorem kiA_z {R : List Sl} {l : List Pc} {but : Int} (hR : R.length = 8) {j : Nat} (h : R.getD j z0 = z0) : (kiA R l but).getD j z0 = z0 := by
  rw [← kill_same hR, List.getD_eq_getElem?_getD, killL_get]
  split
  · rfl
  · rw [← List.getD_eq_getElem?_getD]; exact h
theorem set_z {R : List Sl} {j k : Nat} {x : Sl} (h : R.getD j z0 = z0) (hne : k ≠ j) : (R.set k x).getD j z0 = z0 := by
  rw [List.getD_eq_getElem?_getD, List.getElem?_set_ne hne, ← List.getD_eq_getElem?_getD]; exact h
theorem Rel.step {w : Fw} {z : ShS} (g : Rel w z) (h : Int) (q : Ak) : wOk w h q = dOk z h q ∧ wD w h q = dD z h q ∧ wG w h q = dG z h q ∧ Rel (w.to (wB w h q) (wR w h q)) (z.to (dM z h q) (dR z h q)) := by
  have lB : w.B.length = 64 * z.ram.n := by rw [g.B, byN_len]
  have eOk : wOk w h q = dOk z h q := by
    unfold wOk dOk mayB
    rw [g.h, lB]
    cases hf : formB q.k q.a q.c q.s q.op
    · simp
    · rw [has_parts g.n (p2_sm (b := q.b) hf)]
      simp [Bool.and_assoc]
  refine ⟨eOk, ?_⟩
  cases ok : dOk z h q
  · rw [ok] at eOk
    have e1 : wWr w h q = none := by unfold wWr; rw [if_neg (by simp [eOk])]
    have e2 : dWr z h q = none := by unfold dWr; rw [if_neg (by simp [ok])]
    have e3 : wB w h q = w.B := by unfold wB; rw [e1]
    have e4 : dM z h q = z.ram.M := by unfold dM; rw [e2]
    have e5 : wR w h q = w.R := by unfold wR; rw [if_neg (by simp [eOk])]
    have e6 : dR z h q = z.R := by unfold dR; rw [if_neg (by simp [ok])]
    refine ⟨by unfold wD dD; rw [if_neg (by simp [eOk]), if_neg (by simp [ok])], by unfold wG dG; rw [if_neg (by simp [eOk]), if_neg (by simp [ok])], ?_⟩
    rw [e3, e4, e5, e6]
    exact ⟨g.h, g.hh, g.n, g.wf, g.B, g.R, g.l, g.o⟩
  · rw [ok] at eOk
    have k1 := ok
    unfold dOk at k1
    simp only [Bool.and_eq_true, decide_eq_true_eq] at k1
    obtain ⟨k1, h0, h1⟩ := k1
    have hm := (may_all k1).1
    have hp : hasP (64 * z.ram.n) q.a q.b q.c q.s = true := by
      rw [has_parts g.n hm]
      unfold mayB at k1
      rw [Bool.and_eq_true] at k1
      exact k1.2
    have hh := g.hh
    obtain ⟨m, rfl⟩ : ∃ m : Nat, h = (m : Int) := ⟨h.toNat, by omega⟩
    have m8 : m < 8 := by omega
    have eV : wV w q = dV z q := by unfold wV dV; rw [g.B]; exact wV_get g.n hm hp
    have eS : wSc w m q = dSc z m q := by
      unfold wSc dSc hasT at8
      rw [in8_k m8, if_pos rfl, g.R, Int.toNat_natCast, Bool.true_and]
    have eL : ∀ v, layP w.B q.a q.b q.c q.s v = byN (memB (stA z.ram.M q.l v).2) (64 * z.ram.n) := fun v => by rw [g.B]; exact lay_st g.n g.wf hm hp
    have eK : killL w.R (linL q.a q.b q.c q.s) m 8 = kiA z.R q.l m := by rw [g.R]; exact kill_same g.l
    have eB : wB w m q = byN (memB (dM z m q).2) (64 * z.ram.n) := by
      unfold wB wWr dM dWr
      rw [if_pos eOk, if_pos ok, eV, eS]
      by_cases k3 : q.k = 3
      · rw [if_pos k3, if_pos k3]; exact eL _
      rw [if_neg k3, if_neg k3]
      by_cases k4 : q.k = 4
      · rw [if_pos k4, if_pos k4]; exact eL _
      rw [if_neg k4, if_neg k4]
      by_cases k6 : q.k = 6
      · rw [if_pos k6, if_pos k6]
        cases dSc z m q
        · exact g.B
        · rw [if_pos rfl, if_pos rfl]
          simp only
          rw [layP_low hm]; exact eL _
      rw [if_neg k6, if_neg k6]
      by_cases k8 : q.k = 8
      · rw [if_pos k8]
        by_cases hv : dV z q = q.o
        · rw [if_pos hv]; exact eL _
        · rw [if_neg hv]; exact g.B
      rw [if_neg k8]
      exact g.B
    have eR1 : wR1 w m q = dR1 z m q := by
      unfold wR1 wWr dR1 dWr
      rw [if_pos eOk, if_pos ok, eV, eS]
      by_cases k3 : q.k = 3
      · rw [if_pos k3, if_pos k3]; exact eK
      rw [if_neg k3, if_neg k3]
      by_cases k4 : q.k = 4
      · rw [if_pos k4, if_pos k4]; exact eK
      rw [if_neg k4, if_neg k4]
      by_cases k6 : q.k = 6
      · rw [if_pos k6, if_pos k6]
        cases dSc z m q
        · exact g.R
        · rw [if_pos rfl, if_pos rfl]; exact eK
      rw [if_neg k6, if_neg k6]
      by_cases k8 : q.k = 8
      · rw [if_pos k8]
        by_cases hv : dV z q = q.o
        · rw [if_pos hv]; exact eK
        · rw [if_neg hv]; exact g.R
      rw [if_neg k8]
      exact g.R
    have sT : ∀ (R : List Sl) (x : Sl), setT R (m : Int) x = R.set m x := fun R x => by unfold setT; rw [if_pos (in8_k m8), Int.toNat_natCast]
    have eR : wR w m q = dR z m q := by
      unfold wR dR
      rw [if_pos eOk, if_pos ok, eR1, g.R, sT, sT, Int.toNat_natCast]
    have oz : ∀ j : Nat, z.h ≤ (j : Int) → (dR1 z m q).getD j z0 = z0 := fun j hj => by
      unfold dR1
      split
      · exact kiA_z g.l (g.o j hj)
      · exact g.o j hj
    refine ⟨?_, ?_, ⟨g.h, g.hh, g.n, dM_wf g.wf, eB, eR, dR_len g.l, fun j hj => ?_⟩⟩
    · unfold wD dD; rw [if_pos eOk, if_pos ok, eV]
    · unfold wG dG; rw [if_pos eOk, if_pos ok, eV, eS]
    · have hj' : z.h ≤ (j : Int) := hj
      show (dR z m q).getD j z0 = z0
      unfold dR
      rw [if_pos ok, sT, sT]
      have hne : m ≠ j := by omega
      split
      · exact set_z (g.o j hj) hne
      · split
        · exact set_z (oz j hj) hne
        · exact oz j hj
theorem Rel.ld {w : Fw} {z : ShS} (g : Rel w z) {a : BitVec 64} : ldV w.B a 8 = .t [.c (.u (ldU z.ram a 8)), .c (.b (ldB z.ram a 8))] := by
  have lB : w.B.length = 64 * z.ram.n := by rw [g.B, byN_len]
  unfold ldV ldU ldB
  rw [lB, hasF_B]
  cases hb : hasB z.ram.n a 8
  · rw [if_neg (by simp)]; simp
  · have hb' := hb
    rw [hasB_iff] at hb'
    rw [if_pos ⟨rfl, by decide⟩, g.B, off_same, num_cut (by omega) (by decide)]
    simp
section
variable {H : AH}
def s_fresvW (args : List AV) (H : AH) : Option AV :=
  match args with
  | [.c (.p p 0 0), .c (.i h)] => (fwQ H p).map fun z => if 0 ≤ h ∧ h < z.h then .t [.c (.u (z.R.getD h.toNat z0).ln), .c (.b (z.R.getD h.toNat z0).is)] else .t [.c (.u 0#64), .c (.b false)]
  | _ => none
theorem s_fresvW_eq {z : Fw} (hI : FwI H z) {h : Int} : s_fresvW [.c (.p z.p 0 0), .c (.i h)] H = some (if 0 ≤ h ∧ h < z.h then .t [.c (.u (z.R.getD h.toNat z0).ln), .c (.b (z.R.getD h.toNat z0).is)] else .t [.c (.u 0#64), .c (.b false)]) := by
  simp only [s_fresvW, fwQ_of hI, Option.map_some]
set_option maxRecDepth 100000 in
set_option maxHeartbeats 2000000 in
theorem ok_fresvW : FpOk Tryz.prog 6 (fun args H => (s_fresvW args H).map fun v => (v, H)) := by
  refine fq_ok (s := s_fresvW) (tab := [(31, .fq s_fhart)]) hmix (TabOk.cons (e := .fq s_fhart) ok_fhart TabOk.nil) Tryz.func6 rfl Tryz.results6 Tryz.ntmps6 (by kernel_rfl) (by kernel_rfl) ?_
  intro args H v h hargs hH
  unfold s_fresvW at h
  split at h <;> try (simp at h; done)
  rename_i p h0
  rw [Option.map_eq_some_iff] at h
  obtain ⟨z, hz, rfl⟩ := h
  obtain ⟨hI, rfl⟩ := fwQ_inv hz
  refine ⟨by simp only [List.length_cons, List.length_nil]; decide, by split <;> rfl, ?_⟩
  have ht := fun X => s_fhart_eq (hI.app X) (h := h0)
  have ht0 := s_fhart_eq hI (h := h0)
  by_cases c : 0 ≤ h0 ∧ h0 < z.h
  · rw [if_pos c]
    rw [decide_eq_true c.1, decide_eq_true c.2] at ht ht0
    have hh := hI.hh
    obtain ⟨m, rfl⟩ : ∃ m : Nat, h0 = (m : Int) := ⟨h0.toNat, by omega⟩
    have m8 : m < 8 := by omega
    have mI : (m : Int) < 8 := by omega
    have m0 : (0 : Int) ≤ (m : Int) := by omega
    obtain ⟨x, hx⟩ : ∃ x, z.R[m]? = some x := ⟨_, List.getElem?_eq_getElem (by rw [hI.l]; exact m8)⟩
    have gx : z.R.getD m z0 = x := by rw [List.getD_eq_getElem?_getD, hx]; rfl
    rw [Int.toNat_natCast, gx]
    have oo := hI.o
    have g3 := fwC_get (s := z) hx
    have l0 := fwC_len hI.l hI.lm
    have g4 : (fwC z z.R).getD (5 + m * 2) .any = .b x.is := by
      have := congrArg (fun l => l.getD 0 .any) g3
      simpa [List.getD_eq_getElem?_getD, slC] using this
    have g5 : (fwC z z.R).getD (5 + m * 2 + 1) .any = .u x.ln := by
      have := congrArg (fun l => l.getD 1 .any) g3
      simpa [List.getD_eq_getElem?_getD, slC] using this
    have g6 : 5 + m * 2 + 1 ≤ 343 := by omega
    have g7 : 5 + m * 2 + 1 + 1 ≤ 343 := by omega
    (try simp (config := { maxSteps := 10000000 }) only [go_sem, seval, ht, ht0, oo, l0, mI, m0, g4, g5, g6, g7, Int.toNat_natCast]; repeat (simp (disch := omega) only [w64_d, ipos, ineg, dpos, dneg]; try simp (config := { maxSteps := 10000000 }) only [go_sem, seval, ht, ht0, oo, l0, mI, m0, g4, g5, g6, g7, Int.toNat_natCast]))
    exact subH_refl _
  · rw [if_neg c]
    have e : (decide (0 ≤ h0) && decide (h0 < z.h)) = false := by
      rw [← Bool.not_eq_true]
      simpa using fun a b => c ⟨a, b⟩
    rw [e] at ht ht0
    (try simp (config := { maxSteps := 10000000 }) only [go_sem, seval, ht, ht0]; repeat (simp (disch := omega) only [w64_d, ipos, ineg, dpos, dneg]; try simp (config := { maxSteps := 10000000 }) only [go_sem, seval, ht, ht0]))
    exact subH_refl _
def s_stable (args : List AV) (H : AH) : Option AV :=
  match args with
  | [.c x] => (shQ H x).map fun z => .g (tabC z.R)
  | _ => none
theorem s_stable_eq {x : Sc} {z : ShS} (hz : ShIs H x z) : s_stable [.c x] H = some (.g (tabC z.R)) := by simp only [s_stable, shQ_of hz, Option.map_some]
set_option maxRecDepth 100000 in
set_option maxHeartbeats 2000000 in
theorem ok_stable : FpOk Tryz.prog 25 (fun args H => (s_stable args H).map fun v => (v, H)) := by
  refine fq_ok (s := s_stable) (tab := []) hmix TabOk.nil Tryz.func25 rfl Tryz.results25 Tryz.ntmps25 (by kernel_rfl) (by kernel_rfl) ?_
  intro args H v h hargs hH
  unfold s_stable at h
  split at h <;> try (simp at h; done)
  rename_i x
  rw [Option.map_eq_some_iff] at h
  obtain ⟨z, hz, rfl⟩ := h
  have hS := shQ_inv hz
  have hx := hS.x
  subst hx
  refine ⟨by simp only [List.length_cons, List.length_nil]; decide, tabC_bel _ _, ?_⟩
  have oX := fun X => (hS.app X).o
  have t16 : (tabC z.R).take 16 = tabC z.R := List.take_of_length_le (by rw [tabC_l hS.l]; exact Nat.le_refl _)
  have l16 := tabC_l hS.l
  have o16 : (tabC z.R).all Sc.one = true := by unfold tabC; rw [List.all_flatMap]; exact List.all_eq_true.2 fun _ _ => rfl
  (try simp (config := { maxSteps := 10000000 }) only [go_sem, seval, oX, shC, t16, l16, o16]; repeat (simp (disch := omega) only [w64_d, ipos, ineg, dpos, dneg]; try simp (config := { maxSteps := 10000000 }) only [go_sem, seval, oX, shC, t16, l16, o16]))
  exact subH_app _ _
def s_sram (args : List AV) (H : AH) : Option AV :=
  match args with
  | [.c x] => (shQ H x).map fun z => .c (.p z.ram.id 0 0)
  | _ => none
theorem s_sram_eq {x : Sc} {z : ShS} (hz : ShIs H x z) : s_sram [.c x] H = some (.c (.p z.ram.id 0 0)) := by simp only [s_sram, shQ_of hz, Option.map_some]
set_option maxRecDepth 100000 in
set_option maxHeartbeats 2000000 in
theorem ok_sram : FpOk Tryz.prog 27 (fun args H => (s_sram args H).map fun v => (v, H)) := by
  refine fq_ok (s := s_sram) (tab := []) hmix TabOk.nil Tryz.func27 rfl Tryz.results27 Tryz.ntmps27 (by kernel_rfl) (by kernel_rfl) ?_
  intro args H v h hargs hH
  unfold s_sram at h
  split at h <;> try (simp at h; done)
  rename_i x
  rw [Option.map_eq_some_iff] at h
  obtain ⟨z, hz, rfl⟩ := h
  have hS := shQ_inv hz
  have hx := hS.x
  subst hx
  have lr := hS.r.lid
  refine ⟨by simp only [List.length_cons, List.length_nil]; decide, by simp [AV.bel, Sc.bel, lr], ?_⟩
  have oX := hS.o
  (try simp (config := { maxSteps := 10000000 }) only [go_sem, seval, oX, shC]; repeat (simp (disch := omega) only [w64_d, ipos, ineg, dpos, dneg]; try simp (config := { maxSteps := 10000000 }) only [go_sem, seval, oX, shC]))
  exact subH_refl _
end
end
end Go.Proofs.YtcbhelkafelofaaGreat
