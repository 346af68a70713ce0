/- Layer 4: the law that all ops are told: the iterator's contract, the law. -/
import Derived.Test.YtkdfblgjhlbpdaaKn9
namespace Go.Proofs.Ytkdfblgjhlbpdaa
open Go.RowKit
open Go.Am
set_option linter.unusedSimpArgs false
set_option linter.unusedVariables false
noncomputable section

theorem keep_new {w W : World} {M : Nat → Prop} {o : Obj} (h : Go.Am.Keep w M W) (ho : o.isCells = false) : Go.Am.Keep w M (W.alloc o) := by
  refine ⟨h.os, h.tape, h.output, by have := h.size; simp; omega, fun b hb hm => ?_, fun b c t f hf hm => ?_⟩
  · rw [alloc_block _ _ _ (Nat.lt_of_lt_of_le hb h.size)]; exact h.old b hb hm
  · by_cases e : b = W.heap.size
    · subst e; rw [alloc_new] at hf; simp at hf; subst hf; simp [Obj.isCells] at ho
    · rcases Nat.lt_or_ge b W.heap.size with h' | h'
      · rw [alloc_block _ _ _ h'] at hf; exact h.free b c t f hf hm
      · rw [Array.getElem?_eq_none (by simp; omega)] at hf; simp at hf
theorem keep_put {w W : World} {M : Nat → Prop} {r : Nat} {o' : Obj} (h : Go.Am.Keep w M W) (hr : w.heap.size ≤ r) (hl : r < W.heap.size) (ho : o'.isCells = false) : Go.Am.Keep w M (W.putObj r o') := by
  refine ⟨h.os, h.tape, h.output, by have := h.size; simp; omega, fun b hb hm => ?_, fun b c t f hf hm => ?_⟩
  · rw [World.putObj_heap_other (by omega)]; exact h.old b hb hm
  · by_cases e : b = r
    · subst e; rw [World.putObj_heap_same hl] at hf; simp at hf; subst hf; simp [Obj.isCells] at ho
    · rw [World.putObj_heap_other e] at hf; exact h.free b c t f hf hm
/-- an owned object lies in cells -/
theorem owns_cells {ρ : Ro} {w : World} {H : AH} (h : HR ρ w H) {i : Nat} {L : Am.Loc} (h1 : (hg H i).owned = true) (h2 : ρ i = some L) (h3 : L.nil = false) : ∃ c t, w.heap[L.blk]? = some (.cells c t (0, 0)) := by
  have ho := h.obj i
  cases hh : hg H i with
  | own cs =>
    rw [hh] at ho
    obtain ⟨L', c, t, e1, _, _, _, _, e2, _⟩ := ho
    obtain rfl : L = L' := by simpa [h2] using e1
    exact ⟨_, _, e2⟩
  | vec z cs =>
    rw [hh] at ho
    obtain ⟨L', e1, _, _, _, _, e2⟩ := ho
    obtain rfl : L = L' := by simpa [h2] using e1
    rw [if_neg (by simp [h3])] at e2
    obtain ⟨c, d, t, e3, _⟩ := e2
    exact ⟨_, _, e3⟩
  | view cs => rw [hh] at h1; simp [AObj.owned] at h1
  | dead => rw [hh] at h1; simp [AObj.owned] at h1
def noV (H : AH) : Prop := ∀ i, (hg H i).live = true → (hg H i).owned = true
theorem kaH_noV (m n : Int) (q : Bool) : noV (kaH m n q) := by
  intro i h
  match i with
  | 0 | 1 | 2 | 3 | 4 => rfl
  | i + 5 => simp [kaH, hg, AObj.live] at h
theorem st_new {w W : World} {ρ0' ρ : Ro} {M : Fx} {H : AH} {a : Act} {o : Obj} (h : St 0 w M ρ [] H a W) (hv : noV H) (ho : o.isCells = false) : St 0 w M ρ [] H a (W.alloc o) := by
  refine ⟨h.fr, h.sz, h.df, ⟨fun i => ?_, h.hr.sep, h.hr.fresh⟩, keep_new h.kp ho, h.ow, h.st⟩
  refine (h.hr.obj i).keep (Stab.refl _) rfl (fun L hi hn hl => ?_) (by simp)
  obtain ⟨c, t, e⟩ := owns_cells h.hr (hv i hl) hi hn
  exact alloc_block _ _ _ (Array.getElem?_eq_some_iff.1 e).1
theorem st_put {w W : World} {ρ : Ro} {M : Fx} {H : AH} {a : Act} {r : Nat} {o o' : Obj} (h : St 0 w M ρ [] H a W) (hv : noV H) (hr : w.heap.size ≤ r) (ho : W.heap[r]? = some o) (hc : o.isCells = false) (hc' : o'.isCells = false) : St 0 w M ρ [] H a (W.putObj r o') := by
  refine ⟨h.fr, h.sz, h.df, ⟨fun i => ?_, h.hr.sep, h.hr.fresh⟩, keep_put h.kp hr (Array.getElem?_eq_some_iff.1 ho).1 hc', h.ow, h.st⟩
  refine (h.hr.obj i).keep (Stab.refl _) rfl (fun L hi hn hl => ?_) (by simp)
  obtain ⟨c, t, e⟩ := owns_cells h.hr (hv i hl) hi hn
  refine World.putObj_heap_other (fun e2 => ?_)
  rw [e2, ho] at e
  simp only [Option.some.injEq] at e
  subst e
  simp [Obj.isCells] at hc

def wantN (m : Int) : Int := if 0 < m ∧ m < 98 then m else 98
open Classical in
def s_kall (args : List AV) (H : AH) : Option (AV × AH) :=
  if h : ∃ m : Int, H = kaH m 0 true ∧ args = [.c (.f 11 [(3, 0, 0), (4, 0, 0), (2, 0, 0), (0, 0, 0)])] then some (.t [], kaH h.choose (wantN h.choose) true) else none
theorem s_kall_eq {m : Int} : s_kall [.c (.f 11 [(3, 0, 0), (4, 0, 0), (2, 0, 0), (0, 0, 0)])] (kaH m 0 true) = some (.t [], kaH m (wantN m) true) := by
  have h : ∃ m' : Int, kaH m 0 true = kaH m' 0 true ∧ ([.c (.f 11 [(3, 0, 0), (4, 0, 0), (2, 0, 0), (0, 0, 0)])] : List AV) = [.c (.f 11 [(3, 0, 0), (4, 0, 0), (2, 0, 0), (0, 0, 0)])] := ⟨m, rfl, rfl⟩
  unfold s_kall
  rw [dif_pos h]
  rw [← (kaH_inj h.choose_spec.1).1]
theorem s_kall_inv {args : List AV} {H H1 : AH} {v : AV} (h : s_kall args H = some (v, H1)) : ∃ m : Int, H = kaH m 0 true ∧ args = [.c (.f 11 [(3, 0, 0), (4, 0, 0), (2, 0, 0), (0, 0, 0)])] ∧ v = .t [] ∧ H1 = kaH m (wantN m) true := by
  unfold s_kall at h
  split at h
  · rename_i hc
    simp only [Option.some.injEq, Prod.mk.injEq] at h
    exact ⟨_, hc.choose_spec.1, hc.choose_spec.2, h.1.symm, h.2.symm⟩
  · simp at h
theorem ok_kall : FpOk Try.prog 20 s_kall := by
  refine ⟨enters_of Try.func20 (by kernel_rfl) rfl, fun args H v H' hs => ?_, fun args H v H' hs ρ w cs hcs hH => ?_⟩
  · obtain ⟨m, rfl, _, _, rfl⟩ := s_kall_inv hs
    exact Nat.le_refl _
  · obtain ⟨m, rfl, rfl, rfl, rfl⟩ := s_kall_inv hs
    cases hcs with
    | cons hf hr =>
      cases hr
      obtain ⟨cv, rfl, hcap⟩ := hf
      let M : Fx := ⟨Owns ρ (kaH m 0 true), 0, ρ0⟩
      let a0 : Act := { tmps := #[], defers := [] }
      have i0 : St 0 w M ρ [] (kaH m 0 true) a0 w :=
        ⟨fun _ => trivial, rfl, rfl, hH, Keep.refl w _ hH.frozen, fun i L h1 h2 h3 => .inl ⟨i, L, h1, h2, h3, rfl⟩, fun i h => absurd h (Nat.not_lt_zero _)⟩
      have capR : ∀ ρ', Stab ρ ρ' → L2 (VRel ρ') [.c (.p 3 0 0), .c (.p 4 0 0), .c (.p 2 0 0), .c (.p 0 0 0)] cv := by
        intro ρ' hst
        have := caps_vals hcap
        clear hcap
        have key : ∀ (l : List AV) (c : List Value), L2 (VRel ρ) l c → L2 (VRel ρ') l c := by
          intro l c h
          induction h with
          | nil => exact .nil
          | cons h _ ih => exact .cons (h.mono hst) ih
        exact key _ _ this
      refine (all_calls 11 cv.toArray (enters_of Try.func11 (by kernel_rfl) rfl)
        (fun k W => ∃ ρ', St 0 w M ρ' [] (kaH m (k : Int) true) a0 W ∧ Stab ρ ρ' ∧ ∀ j : Nat, 1 ≤ j → j ≤ k → (j : Int) ≠ m)
        (fun W => ∃ (ρ' : Ro) (k : Nat), St 0 w M ρ' [] (kaH m ((k : Int) + 1) true) a0 W ∧ Stab ρ ρ' ∧ k < 98 ∧ (k : Int) + 1 = m) w ?_ ?_ ?_).mono ?_
      · rintro k W1 p q ⟨ρ', hst, hs1, hj⟩ hit
        exact ⟨ρ', st_put hst (kaH_noV _ _ _) (Nat.le_refl _) hit rfl rfl, hs1, hj⟩
      · rintro k W1 p hk ⟨ρ', hst, hs1, hj⟩ hit
        have hrel : L2 (VRel ρ') ([.c (.i ((k : Int) + 1)), .c (.s (nm (k + 1)))] ++ [.c (.p 3 0 0), .c (.p 4 0 0), .c (.p 2 0 0), .c (.p 0 0 0)]) ([.int .i64 ((k : Int) + 1), .string (nm (k + 1))] ++ cv) :=
          L2.app (.cons ⟨rfl, by omega, by omega⟩ (.cons ⟨rfl, nm_sizeB _⟩ .nil)) (capR ρ' hs1)
        have hc := ok_kall1.runs _ _ _ _ (s_kall1_eq (m := m) hk) ρ' W1 _ hrel hst.hr
        have ea : opE k ++ cv.toArray = ([Value.int .i64 ((k : Int) + 1), .string (nm (k + 1))] ++ cv).toArray := by simp [opE]
        rw [ea]
        refine hc.mono ?_
        rintro e W2 ⟨vc, ρ2, rfl, hv, hr2, hs2, hk2, ho2⟩
        obtain rfl : vc = .bool (!decide ((k : Int) + 1 = m)) := hv
        have hst2 := hst.call hr2 hs2 hk2 ho2
        have hit2 : W2.heap[w.heap.size]? = some (.stringIter opS p) := by
          rw [hk2.old _ (Array.getElem?_eq_some_iff.1 hit).1]
          · exact hit
          · rintro ⟨i, L, h1, h2, h3, h4⟩
            obtain ⟨c, t, e⟩ := owns_cells hst.hr h1 h2 h3
            rw [h4, hit] at e
            simp at e
        by_cases hm : (k : Int) + 1 = m
        · exact .inr ⟨by simp [hm], ρ2, k, hst2, hs1.trans hs2, hk, hm⟩
        · refine .inl ⟨by simp [hm], ⟨ρ2, by rw [show ((k + 1 : Nat) : Int) = (k : Int) + 1 by omega]; exact hst2, hs1.trans hs2, fun j h1 h2 => ?_⟩, hit2⟩
          rcases Nat.lt_or_ge j (k + 1) with h' | h'
          · exact hj j h1 (by omega)
          · obtain rfl : j = k + 1 := by omega
            omega
      · exact ⟨ρ, st_new (ρ0' := ρ) i0 (kaH_noV _ _ _) rfl, Stab.refl _, fun j h1 h2 => by omega⟩
      · rintro e W' ⟨rfl, h⟩
        have fin : ∀ (ρ' : Ro) (n : Int), St 0 w M ρ' [] (kaH m n true) a0 W' → Stab ρ ρ' → n = wantN m → ∃ vc ρ', Ending.returned (.tuple #[]) = .returned vc ∧ VRel ρ' (.t []) vc ∧ HR ρ' W' (kaH m (wantN m) true) ∧ Stab ρ ρ' ∧ Keep w (Owns ρ (kaH m 0 true)) W' ∧ (∀ b, Owns ρ' (kaH m (wantN m) true) b → Owns ρ (kaH m 0 true) b ∨ w.heap.size ≤ b) := by
          rintro ρ' n hst hs1 rfl
          exact ⟨_, ρ', rfl, ⟨[], rfl, .nil⟩, hst.hr, hs1, hst.kp, fun b hb => by obtain ⟨i, L, h1, h2, h3, rfl⟩ := hb; exact hst.ow i L h1 h2 h3⟩
        rcases h with ⟨ρ', hst, hs1, hj⟩ | ⟨ρ', k, hst, hs1, hk, hm⟩
        · refine fin ρ' _ hst hs1 ?_
          unfold wantN
          rw [if_neg (fun ⟨h1, h2⟩ => hj m.toNat (by omega) (by omega) (by omega))]
          rfl
        · refine fin ρ' _ hst hs1 ?_
          unfold wantN
          split <;> omega
def s_allf4 (args : List AV) : Option AV :=
  match args with
  | [] => some (.c (.f 20 []))
  | _ => none
theorem s_allf4_eq : s_allf4 [] = some (.c (.f 20 [])) := rfl
set_option maxRecDepth 100000 in
set_option maxHeartbeats 2000000 in
theorem ok_allf4 : PuOk Try.prog 10 s_allf4 := by
  refine pu_ok (tab := []) hmix TabOk.nil Try.func10 rfl Try.results10 Try.ntmps10 (by kernel_rfl) (by kernel_rfl) ?_
  intro args v h
  unfold s_allf4 at h
  split at h
  · simp only [Option.some.injEq] at h; subst h
    refine ⟨by simp only [List.length_cons, List.length_nil]; decide, rfl, rfl, ?_⟩
    (try simp (config := { maxSteps := 10000000 }) only [go_sem, List.reduceReplicate, BitVec.reduceOfInt, BitVec.reduceToNat, BitVec.reduceToInt, BitVec.reduceEq, BitVec.reduceLT, BitVec.reduceLE, BitVec.reduceAdd, BitVec.reduceSub, BitVec.reduceMul, BitVec.reduceUDiv, BitVec.reduceUMod, BitVec.reduceAnd, BitVec.reduceOr, BitVec.reduceXOr, BitVec.reduceNot, BitVec.reduceNeg, BitVec.reduceHShiftLeft, BitVec.reduceHShiftRight, Nat.reduceAdd, Nat.reduceMul, Nat.reduceSub, Nat.reduceBEq, Nat.reduceEqDiff, Nat.reduceLeDiff, Nat.reduceLT, Int.reduceLE, Int.reduceLT, Int.reduceAdd, Int.reduceSub, Int.reduceMul, Int.reduceNeg, Int.reduceToNat, Int.reduceEq, ↓reduceIte, reduceCtorEq]; repeat (simp (disch := omega) only [w64_d, ipos, ineg, dpos, dneg]; try simp (config := { maxSteps := 10000000 }) only [go_sem, List.reduceReplicate, BitVec.reduceOfInt, BitVec.reduceToNat, BitVec.reduceToInt, BitVec.reduceEq, BitVec.reduceLT, BitVec.reduceLE, BitVec.reduceAdd, BitVec.reduceSub, BitVec.reduceMul, BitVec.reduceUDiv, BitVec.reduceUMod, BitVec.reduceAnd, BitVec.reduceOr, BitVec.reduceXOr, BitVec.reduceNot, BitVec.reduceNeg, BitVec.reduceHShiftLeft, BitVec.reduceHShiftRight, Nat.reduceAdd, Nat.reduceMul, Nat.reduceSub, Nat.reduceBEq, Nat.reduceEqDiff, Nat.reduceLeDiff, Nat.reduceLT, Int.reduceLE, Int.reduceLT, Int.reduceAdd, Int.reduceSub, Int.reduceMul, Int.reduceNeg, Int.reduceToNat, Int.reduceEq, ↓reduceIte, reduceCtorEq]))
  · simp at h
def s_kindall (args : List AV) : Option AV :=
  match args with
  | [.c (.i m)] => if -9223372036854775808 ≤ m ∧ m ≤ 9223372036854775807 then some (.c (.b true)) else none
  | _ => none
theorem s_kindall_eq {m} : s_kindall [.c (.i m)] = if -9223372036854775808 ≤ m ∧ m ≤ 9223372036854775807 then some (.c (.b true)) else none := rfl
set_option maxRecDepth 100000 in
set_option maxHeartbeats 2000000 in
theorem ok_kindall : PuOk Try.prog 4 s_kindall := by
  refine pu_ok (tab := [(10, .pu s_allf4), (7, .fp s_names), (20, .fp s_kall), (6, .pu s_live4)]) hmix (TabOk.cons (e := .pu s_allf4) ok_allf4 (TabOk.cons (e := .fp s_names) ok_names (TabOk.cons (e := .fp s_kall) ok_kall (TabOk.cons (e := .pu s_live4) ok_live4 TabOk.nil)))) Try.func4 rfl Try.results4 Try.ntmps4 (by kernel_rfl) (by kernel_rfl) ?_
  intro args v h
  unfold s_kindall at h
  split at h
  · rename_i m
    split at h
    · rename_i hc
      simp only [Option.some.injEq] at h; subst h
      refine ⟨by simp only [List.length_cons, List.length_nil]; decide, rfl, rfl, ?_⟩
      have e := s_kall_eq (m := m)
      unfold kaH at e
      by_cases h1 : 0 < m
      · by_cases h2 : m < 98
        · have e2 : wantN m = m := if_pos ⟨h1, h2⟩
          rw [e2] at e
          (try simp (config := { maxSteps := 10000000 }) only [go_sem, List.reduceReplicate, BitVec.reduceOfInt, BitVec.reduceToNat, BitVec.reduceToInt, BitVec.reduceEq, BitVec.reduceLT, BitVec.reduceLE, BitVec.reduceAdd, BitVec.reduceSub, BitVec.reduceMul, BitVec.reduceUDiv, BitVec.reduceUMod, BitVec.reduceAnd, BitVec.reduceOr, BitVec.reduceXOr, BitVec.reduceNot, BitVec.reduceNeg, BitVec.reduceHShiftLeft, BitVec.reduceHShiftRight, Nat.reduceAdd, Nat.reduceMul, Nat.reduceSub, Nat.reduceBEq, Nat.reduceEqDiff, Nat.reduceLeDiff, Nat.reduceLT, Int.reduceLE, Int.reduceLT, Int.reduceAdd, Int.reduceSub, Int.reduceMul, Int.reduceNeg, Int.reduceToNat, Int.reduceEq, ↓reduceIte, reduceCtorEq, s_allf4_eq, s_names_eq, s_kall_eq, s_live4_eq, e, h1, h2]; repeat (simp (disch := omega) only [w64_d, ipos, ineg, dpos, dneg]; try simp (config := { maxSteps := 10000000 }) only [go_sem, List.reduceReplicate, BitVec.reduceOfInt, BitVec.reduceToNat, BitVec.reduceToInt, BitVec.reduceEq, BitVec.reduceLT, BitVec.reduceLE, BitVec.reduceAdd, BitVec.reduceSub, BitVec.reduceMul, BitVec.reduceUDiv, BitVec.reduceUMod, BitVec.reduceAnd, BitVec.reduceOr, BitVec.reduceXOr, BitVec.reduceNot, BitVec.reduceNeg, BitVec.reduceHShiftLeft, BitVec.reduceHShiftRight, Nat.reduceAdd, Nat.reduceMul, Nat.reduceSub, Nat.reduceBEq, Nat.reduceEqDiff, Nat.reduceLeDiff, Nat.reduceLT, Int.reduceLE, Int.reduceLT, Int.reduceAdd, Int.reduceSub, Int.reduceMul, Int.reduceNeg, Int.reduceToNat, Int.reduceEq, ↓reduceIte, reduceCtorEq, s_allf4_eq, s_names_eq, s_kall_eq, s_live4_eq, e, h1, h2]))
        · have e2 : wantN m = 98 := if_neg (fun h => h2 h.2)
          rw [e2] at e
          (try simp (config := { maxSteps := 10000000 }) only [go_sem, List.reduceReplicate, BitVec.reduceOfInt, BitVec.reduceToNat, BitVec.reduceToInt, BitVec.reduceEq, BitVec.reduceLT, BitVec.reduceLE, BitVec.reduceAdd, BitVec.reduceSub, BitVec.reduceMul, BitVec.reduceUDiv, BitVec.reduceUMod, BitVec.reduceAnd, BitVec.reduceOr, BitVec.reduceXOr, BitVec.reduceNot, BitVec.reduceNeg, BitVec.reduceHShiftLeft, BitVec.reduceHShiftRight, Nat.reduceAdd, Nat.reduceMul, Nat.reduceSub, Nat.reduceBEq, Nat.reduceEqDiff, Nat.reduceLeDiff, Nat.reduceLT, Int.reduceLE, Int.reduceLT, Int.reduceAdd, Int.reduceSub, Int.reduceMul, Int.reduceNeg, Int.reduceToNat, Int.reduceEq, ↓reduceIte, reduceCtorEq, s_allf4_eq, s_names_eq, s_kall_eq, s_live4_eq, e, h1, h2]; repeat (simp (disch := omega) only [w64_d, ipos, ineg, dpos, dneg]; try simp (config := { maxSteps := 10000000 }) only [go_sem, List.reduceReplicate, BitVec.reduceOfInt, BitVec.reduceToNat, BitVec.reduceToInt, BitVec.reduceEq, BitVec.reduceLT, BitVec.reduceLE, BitVec.reduceAdd, BitVec.reduceSub, BitVec.reduceMul, BitVec.reduceUDiv, BitVec.reduceUMod, BitVec.reduceAnd, BitVec.reduceOr, BitVec.reduceXOr, BitVec.reduceNot, BitVec.reduceNeg, BitVec.reduceHShiftLeft, BitVec.reduceHShiftRight, Nat.reduceAdd, Nat.reduceMul, Nat.reduceSub, Nat.reduceBEq, Nat.reduceEqDiff, Nat.reduceLeDiff, Nat.reduceLT, Int.reduceLE, Int.reduceLT, Int.reduceAdd, Int.reduceSub, Int.reduceMul, Int.reduceNeg, Int.reduceToNat, Int.reduceEq, ↓reduceIte, reduceCtorEq, s_allf4_eq, s_names_eq, s_kall_eq, s_live4_eq, e, h1, h2]))
      · have e2 : wantN m = 98 := if_neg (fun h => h1 h.1)
        rw [e2] at e
        (try simp (config := { maxSteps := 10000000 }) only [go_sem, List.reduceReplicate, BitVec.reduceOfInt, BitVec.reduceToNat, BitVec.reduceToInt, BitVec.reduceEq, BitVec.reduceLT, BitVec.reduceLE, BitVec.reduceAdd, BitVec.reduceSub, BitVec.reduceMul, BitVec.reduceUDiv, BitVec.reduceUMod, BitVec.reduceAnd, BitVec.reduceOr, BitVec.reduceXOr, BitVec.reduceNot, BitVec.reduceNeg, BitVec.reduceHShiftLeft, BitVec.reduceHShiftRight, Nat.reduceAdd, Nat.reduceMul, Nat.reduceSub, Nat.reduceBEq, Nat.reduceEqDiff, Nat.reduceLeDiff, Nat.reduceLT, Int.reduceLE, Int.reduceLT, Int.reduceAdd, Int.reduceSub, Int.reduceMul, Int.reduceNeg, Int.reduceToNat, Int.reduceEq, ↓reduceIte, reduceCtorEq, s_allf4_eq, s_names_eq, s_kall_eq, s_live4_eq, e, h1]; repeat (simp (disch := omega) only [w64_d, ipos, ineg, dpos, dneg]; try simp (config := { maxSteps := 10000000 }) only [go_sem, List.reduceReplicate, BitVec.reduceOfInt, BitVec.reduceToNat, BitVec.reduceToInt, BitVec.reduceEq, BitVec.reduceLT, BitVec.reduceLE, BitVec.reduceAdd, BitVec.reduceSub, BitVec.reduceMul, BitVec.reduceUDiv, BitVec.reduceUMod, BitVec.reduceAnd, BitVec.reduceOr, BitVec.reduceXOr, BitVec.reduceNot, BitVec.reduceNeg, BitVec.reduceHShiftLeft, BitVec.reduceHShiftRight, Nat.reduceAdd, Nat.reduceMul, Nat.reduceSub, Nat.reduceBEq, Nat.reduceEqDiff, Nat.reduceLeDiff, Nat.reduceLT, Int.reduceLE, Int.reduceLT, Int.reduceAdd, Int.reduceSub, Int.reduceMul, Int.reduceNeg, Int.reduceToNat, Int.reduceEq, ↓reduceIte, reduceCtorEq, s_allf4_eq, s_names_eq, s_kall_eq, s_live4_eq, e, h1]))
    · simp at h
  · simp at h
end
end Go.Proofs.Ytkdfblgjhlbpdaa
