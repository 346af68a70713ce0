/- Layer 4: an op's name, a name's op: walks. -/
import Derived.Test.YtflcjnekmjdckaaKn3
namespace Go.Proofs.Ytflcjnekmjdckaa
open Go.RowKit Go.Shelf
open Go.Am
set_option linter.unusedSimpArgs false
set_option linter.unusedVariables false
noncomputable section
attribute [local go_sem] Oper.semAt_some

def nameI (op : Int) : ByteArray := if 1 ≤ op ∧ op ≤ 98 then nm op.toNat else ⟨#[]⟩
def KN (w W : World) : Prop := Go.Am.Keep w (fun _ => False) W
theorem kn_new {w W : World} {o : Obj} (h : KN w W) (ho : o.isCells = false) : KN w (W.alloc o) := by
  refine ⟨h.os, h.tape, h.output, by have := h.size; simp; omega, fun b hb hm => ?_, fun b c t f hf hm => ?_⟩
  · rw [alloc_block _ _ _ (Nat.lt_of_lt_of_le hb h.size)]; exact h.old b hb hm
  · by_cases e : b = W.heap.size
    · subst e; rw [alloc_new] at hf; simp at hf; subst hf; simp [Obj.isCells] at ho
    · rcases Nat.lt_or_ge b W.heap.size with h' | h'
      · rw [alloc_block _ _ _ h'] at hf; exact h.free b c t f hf hm
      · rw [Array.getElem?_eq_none (by simp; omega)] at hf; simp at hf
theorem kn_put {w W : World} {r : Nat} {o' : Obj} (h : KN w W) (hr : w.heap.size ≤ r) (hl : r < W.heap.size) (ho : o'.isCells = false) : KN w (W.putObj r o') := by
  refine ⟨h.os, h.tape, h.output, by have := h.size; simp; omega, fun b hb hm => ?_, fun b c t f hf hm => ?_⟩
  · rw [World.putObj_heap_other (by omega)]; exact h.old b hb hm
  · by_cases e : b = r
    · subst e; rw [World.putObj_heap_same hl] at hf; simp at hf; subst hf; simp [Obj.isCells] at ho
    · rw [World.putObj_heap_other e] at hf; exact h.free b c t f hf hm
theorem kn_cells {w W : World} (h : KN w W) (c : Array Value) (t : Nat) : KN w (W.alloc (.cells c t)) := Go.Am.Keep.alloc h c t
theorem kn_set {w W : World} {b i : Nat} {v : Value} (h : KN w W) (hr : w.heap.size ≤ b) : KN w (W.setCell ⟨b, i, none⟩ v) := by
  have e : ∀ k, (W.setCell ⟨b, i, none⟩ v).heap[k]? = if b = k then (W.heap[k]?).map (fun o => match o with | .cells c t f => .cells (c.setIfInBounds i v) t f | o => o) else W.heap[k]? := by
    intro k
    simp only [World.setCell, Array.getElem?_modify]
    split
    · cases W.heap[k]? with
      | none => rfl
      | some o => cases o <;> rfl
    · rfl
  refine ⟨h.os, h.tape, h.output, by have := h.size; show _ ≤ (W.heap.modify _ _).size; rw [Array.size_modify]; exact this, fun k hk hm => ?_, fun k c t f hf hm => ?_⟩
  · rw [e, if_neg (by omega)]; exact h.old k hk hm
  · rw [e] at hf
    split at hf
    · cases ho : W.heap[k]? with
      | none => rw [ho] at hf; simp at hf
      | some o =>
        rw [ho] at hf
        cases o with
        | cells c' t' f' => simp at hf; obtain ⟨_, rfl, rfl⟩ := hf; exact h.free k c' t' _ ho hm
        | _ => simp at hf
    · exact h.free k c t f hf hm
theorem cell_alloc_l {W : World} {a : Addr} {v : Value} (o : Obj) (h : W.cell? a = some v) : (W.alloc o).cell? a = some v := cell_kept h (World.grownBy_alloc W o none) (fun r e => by cases e)
theorem frozen_alloc_l {W : World} {a : Addr} {v : Value} (o : Obj) (h : W.cell? a = some v) (hf : W.frozen? a = false) : (W.alloc o).frozen? a = false := (frozen_kept h (World.grownBy_alloc W o none) (fun r e => by cases e)).trans hf
theorem cell_new_l (W : World) (v : Value) (t : TypeId) : (W.alloc (.cells #[v] t)).cell? ⟨W.heap.size, 0, none⟩ = some v ∧ (W.alloc (.cells #[v] t)).frozen? ⟨W.heap.size, 0, none⟩ = false := by
  have h : ∀ (V : World) (B : Nat), V.heap[B]? = some (.cells #[v] t (0, 0)) → V.cell? ⟨B, 0, none⟩ = some v ∧ V.frozen? ⟨B, 0, none⟩ = false := by
    intro V B h
    constructor <;> simp [World.cell?, World.frozen?, h]
  exact h _ _ (World.alloc_heap_new W _)
/-- a cell stays, whatever is made or turned that holds no cells -/
theorem stb_cell {B : Nat} {p : Addr} {v : Value} : Stb B fun W => W.cell? p = some v ∧ W.frozen? p = false := by
  refine ⟨fun W o ⟨h1, h2⟩ _ => ?_, fun W r o o' ⟨h1, h2⟩ _ hr ho ho' => ?_⟩
  · exact ⟨cell_alloc_l _ h1, frozen_alloc_l _ h1 h2⟩
  · have hg := grownBy_putObj' W r o'
    have hk : ∀ k, some r = some k → ∃ o : Obj, W.heap[k]? = some o ∧ o.isCells = false := fun k e => by cases e; exact ⟨o, hr, ho⟩
    exact ⟨cell_kept h1 hg hk, (frozen_kept h1 hg hk).trans h2⟩
theorem stb_kn {w : World} {B : Nat} (h : w.heap.size ≤ B) : Stb B fun W => KN w W :=
  ⟨fun W o hi ho => kn_new hi ho, fun W r o o' hi hB hr ho ho' => kn_put hi (by omega) (Array.getElem?_eq_some_iff.1 hr).1 ho'⟩
theorem Stb.and {B : Nat} {I J : World → Prop} (h : Stb B I) (h' : Stb B J) : Stb B fun W => I W ∧ J W :=
  ⟨fun W o hi ho => ⟨h.new W o hi.1 ho, h'.new W o hi.2 ho⟩, fun W r o o' hi hB hr ho ho' => ⟨h.put W r o o' hi.1 hB hr ho ho', h'.put W r o o' hi.2 hB hr ho ho'⟩⟩
theorem stb_pure {B : Nat} {p : Prop} : Stb B fun _ => p := ⟨fun _ _ h _ => h, fun _ _ _ _ h _ _ _ _ => h⟩

theorem allf_in (F : Fence) (n : Nat) (hf : F.fn 90) (hro : F.round = none) (w : World) : CallsIn F n Try.prog 90 #[] w fun e w' => e = .returned (.func (.func 91) #[] #[]) ∧ w' = w := by
  refine callsIn_of_wp Try.func90 rfl hf ?_ hro
  simp only [Try.ntmps90, List.size_toArray, List.length_cons, List.length_nil, Nat.reduceAdd, Nat.reduceSub, Array.replicate_succ, Array.replicate_zero, List.push_toArray, List.append_toArray, List.nil_append, List.cons_append]
  gi_wp2
  go_ret
  exact ⟨rfl, rfl⟩

set_option maxRecDepth 100000 in
set_option maxHeartbeats 4000000 in
theorem name_in (F : Fence) (n : Nat) (h9 : F.fn 79) (h10 : F.fn 90) (h20 : F.fn 91) (hro : F.round = none) (hn : 3 ≤ n) (op : Int) (w : World) :
    CallsIn F n Try.prog 79 #[.int .i64 op] w fun e W' => e = .returned (.string (nameI op)) ∧ KN w W' := by
  have h1 : 1 ≤ n := by omega
  have hkw : KN w w := Go.Am.keep_0 w
  refine callsIn_of_wp_marks Try.func79 rfl h9 ?_ hro
  simp only [Try.ntmps79, List.size_toArray, List.length_cons, List.length_nil, Nat.reduceAdd, Nat.reduceSub, Array.replicate_succ, Array.replicate_zero, List.push_toArray, List.append_toArray, List.nil_append, List.cons_append]
  gi_wp2_with (gi_at_call 90; refine (allf_in F (n - 1) h10 hro _).mono ?_; rintro e w' ⟨rfl, rfl⟩)
  have c0 := cell_new_l w (.int .i64 op) 33
  have c1 := cell_new_l (w.alloc (.cells #[.int .i64 op] 33)) (.string ⟨#[]⟩) 9
  rw [World.size_alloc] at c1
  refine rf_law hro h1 rfl h20 (enters_of Try.func91 (by kernel_rfl) rfl) (all_seq F (n - 1) h20 hro (by omega)) (fun _ => rfl)
    (fun k W => KN w W ∧ (W.cell? ⟨w.heap.size, 0, none⟩ = some (.int .i64 op) ∧ W.frozen? ⟨w.heap.size, 0, none⟩ = false) ∧ (W.cell? ⟨w.heap.size + 1, 0, none⟩ = some (.string ⟨#[]⟩) ∧ W.frozen? ⟨w.heap.size + 1, 0, none⟩ = false) ∧ ∀ j : Nat, j < k → (j : Int) + 1 ≠ op)
    (fun W => KN w W ∧ (W.cell? ⟨w.heap.size + 1, 0, none⟩ = some (.string (nameI op)) ∧ W.frozen? ⟨w.heap.size + 1, 0, none⟩ = false))
    (fun k => (stb_kn (by simp; omega)).and (stb_cell.and (stb_cell.and stb_pure))) ((stb_kn (by simp; omega)).and stb_cell)
    ⟨kn_cells (kn_cells hkw _ _) _ _, ⟨cell_alloc_l _ c0.1, frozen_alloc_l _ c0.1 c0.2⟩, c1, fun j hj => absurd hj (Nat.not_lt_zero _)⟩
    (fun k => { tmps := #[.int .i64 op, .pointer (some ⟨w.heap.size, 0, none⟩), .pointer (some ⟨w.heap.size + 1, 0, none⟩), .int .i64 ((k : Int) + 1), .string (nm (k + 1)), .func (.func 91) #[] #[], .int .i64 ((k : Int) + 1), .string (nm (k + 1)), undef, undef, undef, undef], defers := [] }) ?assign ?body ?done ?stop
  case assign =>
    intro l k W K hK
    simp only [opE]
    gi_wp2
    exact hK
  case body =>
    rintro l k W ⟨hkn, ⟨hc0, hf0⟩, ⟨hc1, hf1⟩, hne⟩ hlt
    gi_wp2
    · rename_i hx
      obtain rfl : (k : Int) + 1 = op := eq_of_beq hx
      refine ⟨KeepsOthers.setCell _ _ _, kn_set hkn (by omega), ?_, by rw [World.frozen?_setCell]; exact hf1⟩
      have : nameI ((k : Int) + 1) = nm (k + 1) := by
        unfold nameI; rw [if_pos (by omega)]; congr 1
      rw [this]
      exact World.cell?_setCell_same' _ _ _ (by rw [hc1]; rfl)
    · rename_i hx
      refine ⟨KeepsOthers.refl _, hkn, ⟨hc0, hf0⟩, ⟨hc1, hf1⟩, fun j hj => ?_⟩
      rcases Nat.lt_succ_iff_lt_or_eq.1 hj with hj | rfl
      · exact hne j hj
      · intro e; simp [e] at hx
  case done =>
    rintro D W hD ⟨hkn, ⟨hc0, hf0⟩, ⟨hc1, hf1⟩, hne⟩ hK
    gi_wp2
    have hK' := (KeepsOthers.setCell W ⟨w.heap.size + 1, 0, none⟩ (.string ⟨#[]⟩)).same D _ hK rfl
    refine ⟨by simp, .inl ⟨_, _, rfl, run_takeDeferred hK', ?_⟩⟩
    have hc5 := cell_kept (World.cell?_setCell_same' W ⟨w.heap.size + 1, 0, none⟩ (.string ⟨#[]⟩) (by rw [hc1]; rfl)) (grownBy_putObj' _ D (.deferred none)) (fun r e => by cases e; exact ⟨_, hK', rfl⟩)
    refine ⟨.string ⟨#[]⟩, by simp [results, Try.f79, go_sem, hc5], ?_, ?_⟩
    · have : nameI op = ⟨#[]⟩ := by
        unfold nameI; rw [if_neg (fun h => hne (op.toNat - 1) (by omega) (by omega))]
      rw [this]
    · simp only [World.size_alloc] at hD
      exact kn_put (kn_set hkn (by omega)) (by omega) (Array.getElem?_eq_some_iff.1 hK').1 rfl
  case stop =>
    rintro D W hD ⟨hkn, hc1, hf1⟩ hK
    gi_wp2
    refine ⟨by simp, .inl ⟨_, _, rfl, run_takeDeferred hK, ?_⟩⟩
    have hc5 := cell_kept hc1 (grownBy_putObj' _ D (.deferred none)) (fun r e => by cases e; exact ⟨_, hK, rfl⟩)
    simp only [World.size_alloc] at hD
    exact ⟨_, by simp [results, Try.f79, go_sem, hc5], rfl, kn_put hkn (by omega) (Array.getElem?_eq_some_iff.1 hK).1 rfl⟩
end
end Go.Proofs.Ytflcjnekmjdckaa
