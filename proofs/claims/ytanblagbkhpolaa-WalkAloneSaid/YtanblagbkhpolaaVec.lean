/- A slice that a function appends to, nil or made ahead: its object, before and behind. -/
import Derived.Test.YtanblagbkhpolaaB1
namespace Go.Proofs.Ytanblagbkhpolaa
open Go.Am
set_option linter.unusedSimpArgs false
set_option linter.unusedVariables false
noncomputable section

theorem Wk.same {n : Nat} {fr fr' : Fr} {H : AH} (h : ∀ s, Am.get fr' s = Am.get fr s) : Wk n fr H (fr', H) :=
  fun ρ _ _ h1 h2 => ⟨ρ, fun s => by rw [h s]; exact h1 s, h2, fun i _ hi hL _ => ⟨i, hi, hL⟩, fun _ _ => rfl⟩
theorem bel_app {H : AH} {o : AObj} (hH : belH H = true) (ho : o.scs.all (Sc.bel (H.length + 1)) = true) : belH (H ++ [o]) = true := by
  simp only [belH, List.all_append, List.all_cons, List.all_nil, Bool.and_true, Bool.and_eq_true, List.length_append, List.length_cons, List.length_nil]
  refine ⟨List.all_eq_true.2 fun x hx => List.all_eq_true.2 fun s hs => ?_, ho⟩
  have := List.all_eq_true.1 (List.all_eq_true.1 hH x hx) s hs
  exact Sc.bel_mono this (by omega)

/-- the row of a slice that is appended to: its object, cells, and how many elements -/
def vecAt (w : Nat) (H : AH) : Sc → Option (Nat × List Sc × Nat)
  | .nils => some (H.length, [], 0)
  | .sl id off v n =>
    match hg H id with
    | .vec z cs => if off = 0 ∧ v = cs.length ∧ z = w ∧ cs.length = n * w then some (id, cs, n) else none
    | _ => none
  | _ => none
/-- the objects behind -/
def vecPut (w : Nat) (H : AH) (l0 : Sc) (m : List Sc) : AH :=
  match l0 with
  | .sl id _ _ _ => H.set id (.vec w m)
  | _ => H ++ [.vec w m]
theorem vecAt_nils {w : Nat} {H : AH} : vecAt w H .nils = some (H.length, [], 0) := rfl
theorem vecPut_nils {w : Nat} {H : AH} {m : List Sc} : vecPut w H .nils m = H ++ [.vec w m] := rfl
theorem vecPut_sl {w id a b c : Nat} {H : AH} {m : List Sc} : vecPut w H (.sl id a b c) m = H.set id (.vec w m) := rfl
theorem vecAt_sl {w id n v : Nat} {H : AH} {cs : List Sc} (h : hg H id = .vec w cs) (hl : cs.length = n * w) (hv : v = cs.length) : vecAt w H (.sl id 0 v n) = some (id, cs, n) := by
  subst hv
  simp [vecAt, h, hl]
structure VecOk (w : Nat) (H : AH) (l0 : Sc) (HH : List Sc → AH) (id : Nat) (cs : List Sc) (k : Nat) : Prop where
  get0 : ∀ m, hg (HH m) id = .vec w m
  get : ∀ m X, hg (HH m ++ X) id = .vec w m
  set0 : ∀ m m', (HH m).set id (.vec w m') = HH m'
  set : ∀ m m' X, (HH m ++ X).set id (.vec w m') = HH m' ++ X
  hid : ∀ m, id < (HH m).length
  ge : ∀ m, H.length ≤ (HH m).length
  bel : ∀ m, m.all Sc.pf = true → belH (HH (cs ++ m)) = true
  start : ∀ fr d, Am.get fr d = .c l0 → Wk H.length fr H ((d, .c (.sl id 0 cs.length k)) :: fr, HH cs)
  len : cs.length = k * w
theorem pf_bel {m : List Sc} (n : Nat) (h : m.all Sc.pf = true) : m.all (Sc.bel n) = true := by
  rw [List.all_eq_true] at h ⊢
  intro x hx
  have := h x hx
  cases x <;> simp_all [Sc.pf, Sc.bel]
theorem vec_ok {w : Nat} {H : AH} {l0 : Sc} {id k : Nat} {cs : List Sc} (hw : 0 < w) (hH : belH H = true) (h : vecAt w H l0 = some (id, cs, k)) : VecOk w H l0 (vecPut w H l0) id cs k := by
  cases l0 <;> simp only [vecAt] at h <;> try (simp at h; done)
  · obtain ⟨rfl, rfl, rfl⟩ : H.length = id ∧ [] = cs ∧ 0 = k := by simpa using h
    refine ⟨fun m => ?_, fun m X => ?_, fun m m' => ?_, fun m m' X => ?_, fun m => ?_, fun m => ?_, fun m hm => ?_, fun fr d hd => ?_, ?_⟩
    · exact hg_len
    · simp only [vecPut, List.append_assoc]; exact hg_len
    · simp only [vecPut]; exact set_len
    · simp only [vecPut, List.append_assoc]; exact set_len
    · simp [vecPut]
    · simp [vecPut]
    · exact bel_app hH (pf_bel _ hm)
    · exact Wk.nil d w hw hd (Nat.le_refl _)
    · simp
  · rename_i id' off v n
    split at h
    · rename_i z cs' hz
      split at h
      · rename_i hc
        obtain ⟨rfl, rfl, rfl, hl⟩ := hc
        obtain ⟨rfl, rfl, rfl⟩ : id' = id ∧ cs' = cs ∧ n = k := by simpa using h
        have hid : id' < H.length := hg_lt (by rw [hz]; rfl)
        have hself : H.set id' (.vec z cs') = H := by
          have : H[id'] = .vec z cs' := by rw [← hz]; unfold hg; rw [List.getD_eq_getElem?_getD, List.getElem?_eq_getElem hid]; rfl
          rw [← this, List.set_getElem_self]
        refine ⟨fun m => ?_, fun m X => ?_, fun m m' => ?_, fun m m' X => ?_, fun m => ?_, fun m => ?_, fun m hm => ?_, fun fr d hd => ?_, hl⟩
        · exact hg_set_same hid
        · simp only [vecPut]; rw [hg_lt' (by simpa using hid)]; exact hg_set_same hid
        · simp only [vecPut, List.set_set]
        · simp only [vecPut]; rw [List.set_append_left _ _ (by simpa using hid), List.set_set]
        · simpa [vecPut] using hid
        · simp [vecPut]
        · refine bel_set hH ?_
          show (cs' ++ m).all _ = true
          rw [List.all_append, Bool.and_eq_true]
          refine ⟨?_, pf_bel _ hm⟩
          have hm : AObj.vec z cs' ∈ H := by rw [← hz]; unfold hg; rw [List.getD_eq_getElem?_getD, List.getElem?_eq_getElem hid]; simp
          exact List.all_eq_true.1 hH _ hm
        · simp only [vecPut]; rw [hself]
          refine Wk.same fun s => ?_
          by_cases e : d = s
          · subst e; rw [hd]; simp [Am.get]
          · simp [Am.get, e]
      · simp at h
    · simp at h
end
end Go.Proofs.Ytanblagbkhpolaa
