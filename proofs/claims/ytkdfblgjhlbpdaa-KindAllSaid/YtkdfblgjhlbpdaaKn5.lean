/- Layer 4: a name's op: walk; and both as contracts. -/
import Derived.Test.YtkdfblgjhlbpdaaKn4
namespace Go.Proofs.Ytkdfblgjhlbpdaa
open Go.RowKit Go.Shelf
open Go.Am
set_option linter.unusedSimpArgs false
set_option linter.unusedVariables false
noncomputable section
attribute [local go_sem] Oper.semAt_some

/-- the op of a name: 0 where there is none -/
def findI (s : ByteArray) : Nat := match (List.range 98).find? (fun k => decide (nm (k + 1) = s)) with
  | some k => k + 1
  | none => 0
def hasI (s : ByteArray) : Bool := ((List.range 98).find? (fun k => decide (nm (k + 1) = s))).isSome
theorem find_hit {s : ByteArray} {k : Nat} (hk : k < 98) (he : nm (k + 1) = s) (hne : ∀ j, j < k → nm (j + 1) ≠ s) : (List.range 98).find? (fun k => decide (nm (k + 1) = s)) = some k := by
  rw [List.find?_range_eq_some]
  exact ⟨by simpa using he, by simpa using hk, fun j hj => by simpa using hne j hj⟩
theorem find_miss {s : ByteArray} (hne : ∀ j, j < 98 → nm (j + 1) ≠ s) : (List.range 98).find? (fun k => decide (nm (k + 1) = s)) = none := by
  rw [List.find?_eq_none]
  intro k hk
  simpa using hne k (by simpa using hk)

set_option maxRecDepth 100000 in
set_option maxHeartbeats 4000000 in
theorem find_in (F : Fence) (n : Nat) (h8 : F.fn 8) (h10 : F.fn 10) (h20 : F.fn 20) (hro : F.round = none) (hn : 3 ≤ n) (s : ByteArray) (w : World) :
    CallsIn F n Try.prog 8 #[.string s] w fun e W' => e = .returned (.tuple #[.int .i64 (findI s), .bool (hasI s)]) ∧ KN w W' := by
  have h1 : 1 ≤ n := by omega
  have hkw : KN w w := Go.Am.keep_0 w
  refine callsIn_of_wp_marks Try.func8 rfl h8 ?_ hro
  simp only [Try.ntmps8, List.size_toArray, List.length_cons, List.length_nil, Nat.reduceAdd, Nat.reduceSub, Array.replicate_succ, Array.replicate_zero, List.push_toArray, List.append_toArray, List.nil_append, List.cons_append]
  gi_wp2_with (gi_at_call 10; refine (allf_in F (n - 1) h10 hro _).mono ?_; rintro e w' ⟨rfl, rfl⟩)
  have c0 := cell_new_l w (.string s) 9
  have c1 := cell_new_l (w.alloc (.cells #[.string s] 9)) (.int .i64 0) 25
  have c2 := cell_new_l ((w.alloc (.cells #[.string s] 9)).alloc (.cells #[.int .i64 0] 25)) (.bool false) 4
  simp only [World.size_alloc] at c1 c2
  have k0 : KN w (((w.alloc (.cells #[.string s] 9)).alloc (.cells #[.int .i64 0] 25)).alloc (.cells #[.bool false] 4)) := kn_cells (kn_cells (kn_cells hkw _ _) _ _) _ _
  refine rf_law hro h1 rfl h20 (enters_of Try.func20 (by kernel_rfl) rfl) (all_seq F (n - 1) h20 hro (by omega)) (fun _ => rfl)
    (fun k W => KN w W ∧ (W.cell? ⟨w.heap.size, 0, none⟩ = some (.string s) ∧ W.frozen? ⟨w.heap.size, 0, none⟩ = false) ∧ (W.cell? ⟨w.heap.size + 1, 0, none⟩ = some (.int .i64 0) ∧ W.frozen? ⟨w.heap.size + 1, 0, none⟩ = false) ∧ (W.cell? ⟨w.heap.size + 1 + 1, 0, none⟩ = some (.bool false) ∧ W.frozen? ⟨w.heap.size + 1 + 1, 0, none⟩ = false) ∧ ∀ j : Nat, j < k → nm (j + 1) ≠ s)
    (fun W => KN w W ∧ (W.cell? ⟨w.heap.size + 1, 0, none⟩ = some (.int .i64 (findI s)) ∧ W.frozen? ⟨w.heap.size + 1, 0, none⟩ = false) ∧ (W.cell? ⟨w.heap.size + 1 + 1, 0, none⟩ = some (.bool (hasI s)) ∧ W.frozen? ⟨w.heap.size + 1 + 1, 0, none⟩ = false))
    (fun k => (stb_kn (by simp; omega)).and (stb_cell.and (stb_cell.and (stb_cell.and stb_pure)))) ((stb_kn (by simp; omega)).and (stb_cell.and stb_cell))
    ⟨k0, ⟨cell_alloc_l _ (cell_alloc_l _ c0.1), frozen_alloc_l _ (cell_alloc_l _ c0.1) (frozen_alloc_l _ c0.1 c0.2)⟩, ⟨cell_alloc_l _ c1.1, frozen_alloc_l _ c1.1 c1.2⟩, c2, fun j hj => absurd hj (Nat.not_lt_zero _)⟩
    (fun k => { tmps := #[.string s, .pointer (some ⟨w.heap.size, 0, none⟩), .pointer (some ⟨w.heap.size + 1, 0, none⟩), .pointer (some ⟨w.heap.size + 1 + 1, 0, none⟩), .int .i64 ((k : Int) + 1), .string (nm (k + 1)), .func (.func 20) #[] #[], .int .i64 ((k : Int) + 1), .string (nm (k + 1)), undef, undef, undef, undef], defers := [] }) ?assign ?body ?done ?stop
  case assign =>
    intro l k W K hK
    simp only [opE]
    gi_wp2
    exact hK
  case body =>
    rintro l k W ⟨hkn, ⟨hc0, hf0⟩, ⟨hc1, hf1⟩, ⟨hc2, hf2⟩, hne⟩ hlt
    have hb1 : ∀ v, (W.setCell ⟨w.heap.size + 1, 0, none⟩ v).cell? ⟨w.heap.size + 1 + 1, 0, none⟩ = some (.bool false) := fun v => (World.cell?_of_block (Below.heap_setCell W ⟨w.heap.size + 1, 0, none⟩ _ (w.heap.size + 1 + 1) (by show w.heap.size + 1 + 1 ≠ w.heap.size + 1; omega))).trans hc2
    have hb2 : ∀ v, (W.setCell ⟨w.heap.size + 1, 0, none⟩ v).frozen? ⟨w.heap.size + 1 + 1, 0, none⟩ = false := fun v => by rw [World.frozen?_setCell]; exact hf2
    gi_wp2
    · rename_i hx
      have hx : nm (k + 1) = s := by rw [← beq_toListBytes, bytes_beq] at hx; exact of_decide_eq_true hx
      have hfd := find_hit hlt hx hne
      have e1 : (findI s : Int) = (k : Int) + 1 := by unfold findI; rw [hfd]; simp
      have e2 : hasI s = true := by unfold hasI; rw [hfd]; rfl
      rw [e1, e2]
      refine ⟨(KeepsOthers.setCell _ _ _).trans (KeepsOthers.setCell _ _ _), kn_set (kn_set hkn (by omega)) (by omega), ⟨?_, ?_⟩, ?_, ?_⟩
      · exact (World.cell?_of_block (Below.heap_setCell _ ⟨w.heap.size + 1 + 1, 0, none⟩ _ (w.heap.size + 1) (by show w.heap.size + 1 ≠ w.heap.size + 1 + 1; omega))).trans (World.cell?_setCell_same' _ _ _ (by rw [hc1]; rfl))
      · rw [World.frozen?_setCell, World.frozen?_setCell]; exact hf1
      · exact World.cell?_setCell_same' _ _ _ (by rw [hb1]; rfl)
      · rw [World.frozen?_setCell, World.frozen?_setCell]; exact hf2
    · rename_i hx
      refine ⟨KeepsOthers.refl _, hkn, ⟨hc0, hf0⟩, ⟨hc1, hf1⟩, ⟨hc2, hf2⟩, fun j hj => ?_⟩
      rcases Nat.lt_succ_iff_lt_or_eq.1 hj with hj | rfl
      · exact hne j hj
      · intro e; simp [e] at hx
  case done =>
    rintro D W hD ⟨hkn, ⟨hc0, hf0⟩, ⟨hc1, hf1⟩, ⟨hc2, hf2⟩, hne⟩ hK
    have hb1 : ∀ v, (W.setCell ⟨w.heap.size + 1, 0, none⟩ v).cell? ⟨w.heap.size + 1 + 1, 0, none⟩ = some (.bool false) := fun v => (World.cell?_of_block (Below.heap_setCell W ⟨w.heap.size + 1, 0, none⟩ _ (w.heap.size + 1 + 1) (by show w.heap.size + 1 + 1 ≠ w.heap.size + 1; omega))).trans hc2
    have hb2 : ∀ v, (W.setCell ⟨w.heap.size + 1, 0, none⟩ v).frozen? ⟨w.heap.size + 1 + 1, 0, none⟩ = false := fun v => by rw [World.frozen?_setCell]; exact hf2
    gi_wp2
    have hK' := ((KeepsOthers.setCell W ⟨w.heap.size + 1, 0, none⟩ (.int .i64 0)).trans (KeepsOthers.setCell _ ⟨w.heap.size + 1 + 1, 0, none⟩ (.bool false))).same D _ hK rfl
    refine ⟨by simp, .inl ⟨_, _, rfl, run_takeDeferred hK', ?_⟩⟩
    have hk5 := cell_kept ((World.cell?_of_block (Below.heap_setCell (W.setCell ⟨w.heap.size + 1, 0, none⟩ (.int .i64 0)) ⟨w.heap.size + 1 + 1, 0, none⟩ (.bool false) (w.heap.size + 1) (by show w.heap.size + 1 ≠ w.heap.size + 1 + 1; omega))).trans (World.cell?_setCell_same' W ⟨w.heap.size + 1, 0, none⟩ (.int .i64 0) (by rw [hc1]; rfl))) (grownBy_putObj' _ D (.deferred none)) (fun r e => by cases e; exact ⟨_, hK', rfl⟩)
    have hb5 := cell_kept (World.cell?_setCell_same' (W.setCell ⟨w.heap.size + 1, 0, none⟩ (.int .i64 0)) ⟨w.heap.size + 1 + 1, 0, none⟩ (.bool false) (by rw [hb1]; rfl)) (grownBy_putObj' _ D (.deferred none)) (fun r e => by cases e; exact ⟨_, hK', rfl⟩)
    have hm := find_miss hne
    have e1 : findI s = 0 := by unfold findI; rw [hm]
    have e2 : hasI s = false := by unfold hasI; rw [hm]; rfl
    rw [e1, e2]
    simp only [World.size_alloc] at hD
    exact ⟨_, by simp [results, Try.f8, go_sem, hk5, hb5], rfl, kn_put (kn_set (kn_set hkn (by omega)) (by omega)) (by omega) (Array.getElem?_eq_some_iff.1 hK').1 rfl⟩
  case stop =>
    rintro D W hD ⟨hkn, ⟨hc1, hf1⟩, ⟨hc2, hf2⟩⟩ hK
    gi_wp2
    refine ⟨by simp, .inl ⟨_, _, rfl, run_takeDeferred hK, ?_⟩⟩
    have hk5 := cell_kept hc1 (grownBy_putObj' _ D (.deferred none)) (fun r e => by cases e; exact ⟨_, hK, rfl⟩)
    have hb5 := cell_kept hc2 (grownBy_putObj' _ D (.deferred none)) (fun r e => by cases e; exact ⟨_, hK, rfl⟩)
    simp only [World.size_alloc] at hD
    exact ⟨_, by simp [results, Try.f8, go_sem, hk5, hb5], rfl, kn_put hkn (by omega) (Array.getElem?_eq_some_iff.1 hK).1 rfl⟩

/-- no fence at all -/
def F0 : Fence := { fn := fun _ => True }
theorem F0_room (k : Nat) : F0.room k := fun d h => by simp [F0] at h
theorem nm_sizeB (k : Nat) : (nm k).size ≤ 9223372036854775807 := by
  have h : ∀ l ∈ nmB, l.length ≤ 20 := by decide +kernel
  show (nmB.getD k []).length ≤ _
  rw [List.getD_eq_getElem?_getD]
  cases hk : nmB[k]? with
  | none => simp
  | some l => have := h l (List.mem_of_getElem? hk); simp; omega
theorem nameI_size (op : Int) : (nameI op).size ≤ 9223372036854775807 := by
  unfold nameI; split
  · exact nm_sizeB _
  · exact Nat.zero_le _
def s_kname (args : List AV) : Option AV :=
  match args with
  | [.c (.i op)] => some (.c (.s (nameI op)))
  | _ => none
theorem s_kname_eq {op : Int} : s_kname [.c (.i op)] = some (.c (.s (nameI op))) := rfl
def s_kfind (args : List AV) : Option AV :=
  match args with
  | [.c (.s s)] => some (.t [.c (.i (findI s)), .c (.b (hasI s))])
  | _ => none
theorem s_kfind_eq {s : ByteArray} : s_kfind [.c (.s s)] = some (.t [.c (.i (findI s)), .c (.b (hasI s))]) := rfl
theorem findI_lt (s : ByteArray) : findI s ≤ 98 := by
  unfold findI
  split
  · rename_i k hk
    have := List.mem_of_find?_eq_some hk
    simp at this; omega
  · omega
theorem ok_kname : PuOk Try.prog 9 s_kname := by
  refine ⟨enters_of Try.func9 (by kernel_rfl) rfl, fun args v hs ρ w cs hcs => ?_⟩
  unfold s_kname at hs
  split at hs
  · rename_i op
    simp only [Option.some.injEq] at hs
    subst hs
    cases hcs with
    | cons h hr =>
      cases hr
      obtain ⟨rfl, h1, h2⟩ := h
      refine ((name_in F0 3 trivial trivial trivial rfl (Nat.le_refl _) op w).calls F0_room).mono ?_
      rintro e w' ⟨rfl, hk⟩
      exact ⟨_, rfl, fun ρ' => ⟨rfl, nameI_size op⟩, hk⟩
  · simp at hs
theorem ok_kfind : PuOk Try.prog 8 s_kfind := by
  refine ⟨enters_of Try.func8 (by kernel_rfl) rfl, fun args v hs ρ w cs hcs => ?_⟩
  unfold s_kfind at hs
  split at hs
  · rename_i s
    simp only [Option.some.injEq] at hs
    subst hs
    cases hcs with
    | cons h hr =>
      cases hr
      obtain ⟨rfl, h1⟩ := h
      refine ((find_in F0 3 trivial trivial trivial rfl (Nat.le_refl _) s w).calls F0_room).mono ?_
      rintro e w' ⟨rfl, hk⟩
      have := findI_lt s
      exact ⟨_, rfl, fun ρ' => ⟨_, rfl, .cons ⟨rfl, by omega, by omega⟩ (.cons rfl .nil)⟩, hk⟩
  · simp at hs
end
end Go.Proofs.Ytkdfblgjhlbpdaa
