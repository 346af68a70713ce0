/- Layer 4: all ops are told to a function. -/
import Derived.Test.YtkdfblgjhlbpdaaKn7
import Derived.LoopTactic
namespace Go.Proofs.Ytkdfblgjhlbpdaa
open Go.RowKit Go.Shelf
open Go.Am
set_option linter.unusedSimpArgs false
set_option linter.unusedVariables false
noncomputable section
attribute [local go_sem] Oper.semAt_some

set_option maxRecDepth 100000 in
set_option maxHeartbeats 4000000 in
theorem all_calls (g : Nat) (caps : Array Value) (eg : ∀ args w, (callFunc g args).run Try.prog w = .ok (.enter g args) w) (J : Nat → World → Prop) (Jx : World → Prop) (W : World)
    (hA : ∀ k W1 p q, J k W1 → W1.heap[W.heap.size]? = some (.stringIter opS p) → J k (W1.putObj W.heap.size (.stringIter opS q)))
    (hY : ∀ k W1 p, k < 98 → J k W1 → W1.heap[W.heap.size]? = some (.stringIter opS p) → Calls Try.prog g (opE k ++ caps) W1 fun e W' =>
      (e = .returned (.bool true) ∧ J (k + 1) W' ∧ W'.heap[W.heap.size]? = some (.stringIter opS p)) ∨ (e = .returned (.bool false) ∧ Jx W'))
    (h0 : J 0 (W.iter opS 0)) :
    Calls Try.prog 20 #[.func (.func g) #[] caps] W fun e W' => e = .returned (.tuple #[]) ∧ (J 98 W' ∨ Jx W') := by
  refine calls_of_wp Try.func20 rfl ?_
  simp only [Try.ntmps20, List.size_toArray, List.length_cons, List.length_nil, Nat.reduceAdd, Nat.reduceSub, Array.replicate_succ, Array.replicate_zero, List.push_toArray, List.append_toArray, List.nil_append, List.cons_append]
  go_wp2
  go_loopw [2, 3] (fun o f wr => ∃ p : Nat, p ≤ 558 ∧ o = .int .i64 ((opc p : Int) + 1) ∧ f = .int .i64 (frm p : Int) ∧ wr.heap[W.heap.size]? = some (.stringIter opS p) ∧ J (opc p) wr)
    (fun _ _ wr => 558 - wr.iterPos W.heap.size)
  case atStart =>
    exact ⟨0, by omega, rfl, rfl, World.iter_heap _ _ _, h0⟩
  case round =>
    obtain ⟨p, hp, rfl, rfl, hs, hJ⟩ := hrel
    by_cases hlt : p < 558
    · have hnx := fun ty => next_at (P := Try.prog) ty hs (opS_lt hlt) (op_ascii (opS_lt hlt))
      have hJ2 := hA _ _ p (p + 1) hJ hs
      have hs2 : (wr.putObj W.heap.size (.stringIter opS (p + 1))).heap[W.heap.size]? = some (.stringIter opS (p + 1)) := World.putObj_heap_same (Array.getElem?_eq_some_iff.1 hs).1
      have hpos : (wr.putObj W.heap.size (.stringIter opS (p + 1))).iterPos W.heap.size = p + 1 := by simp only [World.iterPos, hs2]
      have hpos0 : wr.iterPos W.heap.size = p := by simp only [World.iterPos, hs]
      have hbyte := opB_get (opS_lt hlt)
      by_cases hb : opB.getD p 0 = 32
      · obtain ⟨g1, g2, g3', g4⟩ := op_space hlt hb
        have g3 := frm_le p
        have hR := hY (opc p) _ (p + 1) (by omega) hJ2 hs2
        rw [← hbyte, hb] at hnx
        have hsl := cut_2 g3 (by omega : p ≤ 558)
        go_wp2
        refine hR.mono ?_
        rintro e W3 (⟨rfl, hJ3, hs3⟩ | ⟨rfl, hJx3⟩)
        · go_wp2
          go_roundw
          case rel => exact ⟨p + 1, by omega, by rw [g2]; simp [wrap64] <;> omega, by rw [g3']; simp [wrap64] <;> omega, hs3, by rw [g2]; exact hJ3⟩
          case measure => simp [World.iterPos, hs3, hs] <;> omega
        · go_wp2
          refine bodyPost_ret (results_none rfl _ _ _) rfl ?_
          exact ⟨rfl, .inr hJx3⟩
      · obtain ⟨g2, g3⟩ := op_letter hlt hb
        have hb2 : ((opS[p]'(opS_lt hlt)).toNat : Int) ≠ 32 := by
          rw [← hbyte]; intro h; apply hb
          have : (opB.getD p 0).toNat = 32 := by omega
          exact UInt8.toNat_inj.1 this
        go_wp2
        go_roundw
        case rel => exact ⟨p + 1, by omega, by rw [g2], by rw [g3], hs2, by rw [g2]; exact hJ2⟩
        case measure => simp [World.iterPos, hs2, hs] <;> omega
    · obtain rfl : p = 558 := by omega
      have hnx := fun ty => next_no (P := Try.prog) ty hs (by rw [opS_size]; omega)
      obtain ⟨e1, e2, e3⟩ := op_end
      rw [e1] at hJ
      have hR := hY 97 _ 558 (by omega) hJ hs
      have hsl := cut_1 e2
      rw [op_last] at hsl
      rw [e1]
      go_wp2
      refine hR.mono ?_
      rintro e W3 (⟨rfl, hJ3, hs3⟩ | ⟨rfl, hJx3⟩)
      · go_wp2
        go_end0
        exact ⟨rfl, .inl hJ3⟩
      · go_wp2
        go_end0
        exact ⟨rfl, .inr hJx3⟩
end
end Go.Proofs.Ytkdfblgjhlbpdaa
