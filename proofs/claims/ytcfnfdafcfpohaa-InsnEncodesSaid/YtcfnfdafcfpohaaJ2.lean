/- Layer 3: the reference: where numbers stand (printed by gj2.py): contracts. -/
import Derived.Test.YtcfnfdafcfpohaaJ1
import Derived.Test.YtcfnfdafcfpohaaVec
namespace Go.Proofs.Ytcfnfdafcfpohaa
open Go.Am
set_option linter.unusedSimpArgs false
set_option linter.unusedVariables false
noncomputable section

def plL (f : Nat) : List Int :=
  if f = 2 then [20, 21, 22, 23, 24, 25, 26, 27, 28, 29, 30, 31] else if f = 3 then [7, 8, 9, 10, 11, 25, 26, 27, 28, 29, 30, 31] else if f = 4 then [-1, 8, 9, 10, 11, 25, 26, 27, 28, 29, 30, 7, 31] else if f = 5 then [-1, -1, -1, -1, -1, -1, -1, -1, -1, -1, -1, -1, 12, 13, 14, 15, 16, 17, 18, 19, 20, 21, 22, 23, 24, 25, 26, 27, 28, 29, 30, 31] else if f = 6 then [-1, 21, 22, 23, 24, 25, 26, 27, 28, 29, 30, 20, 12, 13, 14, 15, 16, 17, 18, 19, 31] else if f = 7 then [20, 21, 22, 23, 24, 25] else if f = 8 then [20, 21, 22, 23, 24] else []
def plS (f : Nat) : Bool := decide (2 ≤ f) && decide (f ≤ 6)
def s_rplaces (args : List AV) (H : AH) : Option (AV × AH) :=
  match args with
  | [.c (.s s)] =>
    if nmF s < 15 then
      (if plL (nmF s) = [] then some (.t [.c .nils, .c (.b false)], H)
      else some (.t [.c (.sl H.length 0 (plL (nmF s)).length (plL (nmF s)).length), .c (.b (plS (nmF s)))], H ++ [.vec 1 ((plL (nmF s)).flatMap encI)]))
    else none
  | _ => none
theorem s_rplaces_eq {f : Nat} {H : AH} (hf : f < 15) (h : plL f ≠ []) : s_rplaces [.c (.s (fn f))] H = some (.t [.c (.sl H.length 0 (plL f).length (plL f).length), .c (.b (plS f))], H ++ [.vec 1 ((plL f).flatMap encI)]) := by
  simp only [s_rplaces, nmF_fn hf, hf, if_true, h, if_false]
theorem s_rplaces_no {f : Nat} {H : AH} (hf : f < 15) (h : plL f = []) : s_rplaces [.c (.s (fn f))] H = some (.t [.c .nils, .c (.b false)], H) := by
  simp only [s_rplaces, nmF_fn hf, hf, if_true, h]
theorem len_rplaces (args : List AV) (H : AH) (v : AV) (H1 : AH) (h : s_rplaces args H = some (v, H1)) : H.length ≤ H1.length := by
  unfold s_rplaces at h
  repeat' split at h
  all_goals simp at h
  · rw [← h.2]; exact Nat.le_refl _
  · rw [← h.2]; simp
theorem eI_bel {H : AH} (hH : belH H = true) (L : List Int) : belH (H ++ [.vec 1 (L.flatMap encI)]) = true := by
  refine bel_app hH ?_
  show (L.flatMap encI).all _ = true
  rw [List.all_flatMap]; exact List.all_eq_true.2 fun _ _ => rfl
theorem eI_len (L : List Int) : (L.flatMap encI).length = L.length := by rw [fm_len encI_l, Nat.mul_one]
theorem subH_two {H X : AH} {a : AObj} : subH (H ++ [a]) (H ++ a :: X) := by
  induction H with
  | nil => exact ⟨.inr rfl, by cases X <;> exact trivial⟩
  | cons o r ih => exact ⟨.inr rfl, ih⟩
/-- one more place -/
theorem pl_step {n d : Nat} {fr fr' : Fr} {H X : AH} {M : List Int} {cs : List Sc} (hH : belH H = true) (hn : n ≤ H.length) (hc : cs = M.flatMap encI) (hf : ∀ p ∈ fr', Am.get fr p.1 = p.2) (hb : (fr'.all fun p => p.2.bel (H.length + 1)) = true) : Wk n fr (H ++ .vec 1 cs :: X) (fr', H ++ [.vec 1 (M.flatMap encI)]) := by
  subst hc
  exact Wk.wk (by simp; omega) hf (by simpa using hb) subH_two (eI_bel hH M)

set_option maxHeartbeats 8000000 in
set_option maxRecDepth 100000 in
set_option maxHeartbeats 2000000 in
theorem ok_rplaces : FpOk Try.prog 37 s_rplaces := by
  refine fp_ok (s := s_rplaces) (tab := []) hmix TabOk.nil Try.func37 rfl Try.results37 Try.ntmps37 (by kernel_rfl) (by kernel_rfl) len_rplaces ?_
  intro args H v H1 h hargs hH
  unfold s_rplaces at h
  split at h
  · rename_i s
    split at h
    · rename_i hf
      refine ⟨by simp only [List.length_cons, List.length_nil]; decide, ?_⟩
      obtain ⟨f, hs⟩ : ∃ f, f = nmF s := ⟨_, rfl⟩
      have hsf := nmF_inv hf
      rw [← hs] at hf h hsf
      subst hsf
      clear hs
      have cases : f = 0 ∨ f = 1 ∨ f = 2 ∨ f = 3 ∨ f = 4 ∨ f = 5 ∨ f = 6 ∨ f = 7 ∨ f = 8 ∨ f = 9 ∨ f = 10 ∨ f = 11 ∨ f = 12 ∨ f = 13 ∨ f = 14 := by omega
      rcases cases with rfl | rfl | rfl | rfl | rfl | rfl | rfl | rfl | rfl | rfl | rfl | rfl | rfl | rfl | rfl
      · simp [plL, plS] at h
        obtain ⟨rfl, rfl⟩ := h
        have e2 : (fn 0 = (⟨#[73]⟩ : ByteArray)) = False := eq_false (by decide)
        have e3 : (fn 0 = (⟨#[83]⟩ : ByteArray)) = False := eq_false (by decide)
        have e4 : (fn 0 = (⟨#[66]⟩ : ByteArray)) = False := eq_false (by decide)
        have e5 : (fn 0 = (⟨#[85]⟩ : ByteArray)) = False := eq_false (by decide)
        have e6 : (fn 0 = (⟨#[74]⟩ : ByteArray)) = False := eq_false (by decide)
        have e7 : (fn 0 = (⟨#[83, 104, 105, 102, 116]⟩ : ByteArray)) = False := eq_false (by decide)
        have e8 : (fn 0 = (⟨#[83, 104, 105, 102, 116, 87]⟩ : ByteArray)) = False := eq_false (by decide)
        (try simp only [go_sem, List.reduceReplicate, Nat.reduceAdd, Nat.reduceMul, Nat.reduceSub, Nat.reduceBEq, Nat.reduceEqDiff, Nat.reduceLeDiff, Nat.reduceLT, Int.reduceLE, Int.reduceLT, Int.reduceAdd, Int.reduceSub, Int.reduceNeg, Int.reduceToNat, Int.reduceEq, ↓reduceIte, reduceCtorEq, e2, e3, e4, e5, e6, e7, e8]; repeat (simp (disch := omega) only [w64_d, ipos, ineg, dpos, dneg]; try simp only [go_sem, List.reduceReplicate, Nat.reduceAdd, Nat.reduceMul, Nat.reduceSub, Nat.reduceBEq, Nat.reduceEqDiff, Nat.reduceLeDiff, Nat.reduceLT, Int.reduceLE, Int.reduceLT, Int.reduceAdd, Int.reduceSub, Int.reduceNeg, Int.reduceToNat, Int.reduceEq, ↓reduceIte, reduceCtorEq, e2, e3, e4, e5, e6, e7, e8]))
        exact fin_same
      · simp [plL, plS] at h
        obtain ⟨rfl, rfl⟩ := h
        have e2 : (fn 1 = (⟨#[73]⟩ : ByteArray)) = False := eq_false (by decide)
        have e3 : (fn 1 = (⟨#[83]⟩ : ByteArray)) = False := eq_false (by decide)
        have e4 : (fn 1 = (⟨#[66]⟩ : ByteArray)) = False := eq_false (by decide)
        have e5 : (fn 1 = (⟨#[85]⟩ : ByteArray)) = False := eq_false (by decide)
        have e6 : (fn 1 = (⟨#[74]⟩ : ByteArray)) = False := eq_false (by decide)
        have e7 : (fn 1 = (⟨#[83, 104, 105, 102, 116]⟩ : ByteArray)) = False := eq_false (by decide)
        have e8 : (fn 1 = (⟨#[83, 104, 105, 102, 116, 87]⟩ : ByteArray)) = False := eq_false (by decide)
        (try simp only [go_sem, List.reduceReplicate, Nat.reduceAdd, Nat.reduceMul, Nat.reduceSub, Nat.reduceBEq, Nat.reduceEqDiff, Nat.reduceLeDiff, Nat.reduceLT, Int.reduceLE, Int.reduceLT, Int.reduceAdd, Int.reduceSub, Int.reduceNeg, Int.reduceToNat, Int.reduceEq, ↓reduceIte, reduceCtorEq, e2, e3, e4, e5, e6, e7, e8]; repeat (simp (disch := omega) only [w64_d, ipos, ineg, dpos, dneg]; try simp only [go_sem, List.reduceReplicate, Nat.reduceAdd, Nat.reduceMul, Nat.reduceSub, Nat.reduceBEq, Nat.reduceEqDiff, Nat.reduceLeDiff, Nat.reduceLT, Int.reduceLE, Int.reduceLT, Int.reduceAdd, Int.reduceSub, Int.reduceNeg, Int.reduceToNat, Int.reduceEq, ↓reduceIte, reduceCtorEq, e2, e3, e4, e5, e6, e7, e8]))
        exact fin_same
      · simp [plL, plS] at h
        obtain ⟨rfl, rfl⟩ := h
        have e2 : (fn 2 = (⟨#[73]⟩ : ByteArray)) = True := eq_true (by decide)
        have e3 : (fn 2 = (⟨#[83]⟩ : ByteArray)) = False := eq_false (by decide)
        have e4 : (fn 2 = (⟨#[66]⟩ : ByteArray)) = False := eq_false (by decide)
        have e5 : (fn 2 = (⟨#[85]⟩ : ByteArray)) = False := eq_false (by decide)
        have e6 : (fn 2 = (⟨#[74]⟩ : ByteArray)) = False := eq_false (by decide)
        have e7 : (fn 2 = (⟨#[83, 104, 105, 102, 116]⟩ : ByteArray)) = False := eq_false (by decide)
        have e8 : (fn 2 = (⟨#[83, 104, 105, 102, 116, 87]⟩ : ByteArray)) = False := eq_false (by decide)
        (try simp only [go_sem, List.reduceReplicate, Nat.reduceAdd, Nat.reduceMul, Nat.reduceSub, Nat.reduceBEq, Nat.reduceEqDiff, Nat.reduceLeDiff, Nat.reduceLT, Int.reduceLE, Int.reduceLT, Int.reduceAdd, Int.reduceSub, Int.reduceNeg, Int.reduceToNat, Int.reduceEq, ↓reduceIte, reduceCtorEq, e2, e3, e4, e5, e6, e7, e8]; repeat (simp (disch := omega) only [w64_d, ipos, ineg, dpos, dneg]; try simp only [go_sem, List.reduceReplicate, Nat.reduceAdd, Nat.reduceMul, Nat.reduceSub, Nat.reduceBEq, Nat.reduceEqDiff, Nat.reduceLeDiff, Nat.reduceLT, Int.reduceLE, Int.reduceLT, Int.reduceAdd, Int.reduceSub, Int.reduceNeg, Int.reduceToNat, Int.reduceEq, ↓reduceIte, reduceCtorEq, e2, e3, e4, e5, e6, e7, e8]))
        refine arun_for 12 (fun k => ([(0, .c (.s (fn 2))), (2, .c .nils), (3, .c (.b false)), (4, .c (.sl H.length 0 k k)), (5, .c (.i (k : Int)))], H ++ [.vec 1 (((plL 2).take k).flatMap encI)])) (Wk.trans (Wk.nil 4 1 (by decide) rfl (Nat.le_refl _)) (Wk.fr (by simp [Am.get]))) fun k hk => ?_
        have e1 : w64 ((k : Int) + 1) = ((k + 1 : Nat) : Int) := by rw [w64_of (by omega)]; omega
        have e2 : w64 (20 + (k : Int)) = 20 + (k : Int) := w64_of (by omega)
        have ln : (((plL 2).take k).flatMap encI).length = k := by rw [eI_len, List.length_take]; exact Nat.min_eq_left (by show k ≤ 12; omega)
        by_cases hlt : k < 12
        · have hl2 : ((k : Int) < 12) := by omega
          have hb8 : (k + 1) * 8 ≤ 1099511627776 := by omega
          (try simp only [go_sem, List.reduceReplicate, Nat.reduceAdd, Nat.reduceMul, Nat.reduceSub, Nat.reduceBEq, Nat.reduceEqDiff, Nat.reduceLeDiff, Nat.reduceLT, Int.reduceLE, Int.reduceLT, Int.reduceAdd, Int.reduceSub, Int.reduceNeg, Int.reduceToNat, Int.reduceEq, ↓reduceIte, reduceCtorEq, e1, e2, e2, e3, e4, e5, e6, e7, e8, ln, hl2, hb8]; repeat (simp (disch := omega) only [w64_d, ipos, ineg, dpos, dneg]; try simp only [go_sem, List.reduceReplicate, Nat.reduceAdd, Nat.reduceMul, Nat.reduceSub, Nat.reduceBEq, Nat.reduceEqDiff, Nat.reduceLeDiff, Nat.reduceLT, Int.reduceLE, Int.reduceLT, Int.reduceAdd, Int.reduceSub, Int.reduceNeg, Int.reduceToNat, Int.reduceEq, ↓reduceIte, reduceCtorEq, e1, e2, e2, e3, e4, e5, e6, e7, e8, ln, hl2, hb8]))
          have cc : ((plL 2).take k).flatMap encI ++ [Sc.i (20 + (k : Int))] = ((plL 2).take (k + 1)).flatMap encI := by
            rcases (by omega : k = 0 ∨ k = 1 ∨ k = 2 ∨ k = 3 ∨ k = 4 ∨ k = 5 ∨ k = 6 ∨ k = 7 ∨ k = 8 ∨ k = 9 ∨ k = 10 ∨ k = 11) with rfl | rfl | rfl | rfl | rfl | rfl | rfl | rfl | rfl | rfl | rfl | rfl <;> rfl
          exact ⟨k + 1, by omega, by omega, pl_step (d := 0) hH (Nat.le_refl _) cc (by simp [Am.get, Nat.add_assoc]) (by simp [AV.bel, Sc.bel])⟩
        obtain rfl : k = 12 := by omega
        (try simp only [go_sem, List.reduceReplicate, Nat.reduceAdd, Nat.reduceMul, Nat.reduceSub, Nat.reduceBEq, Nat.reduceEqDiff, Nat.reduceLeDiff, Nat.reduceLT, Int.reduceLE, Int.reduceLT, Int.reduceAdd, Int.reduceSub, Int.reduceNeg, Int.reduceToNat, Int.reduceEq, ↓reduceIte, reduceCtorEq, e2, e3, e4, e5, e6, e7, e8]; repeat (simp (disch := omega) only [w64_d, ipos, ineg, dpos, dneg]; try simp only [go_sem, List.reduceReplicate, Nat.reduceAdd, Nat.reduceMul, Nat.reduceSub, Nat.reduceBEq, Nat.reduceEqDiff, Nat.reduceLeDiff, Nat.reduceLT, Int.reduceLE, Int.reduceLT, Int.reduceAdd, Int.reduceSub, Int.reduceNeg, Int.reduceToNat, Int.reduceEq, ↓reduceIte, reduceCtorEq, e2, e3, e4, e5, e6, e7, e8]))
        exact fin_same
      · simp [plL, plS] at h
        obtain ⟨rfl, rfl⟩ := h
        have e2 : (fn 3 = (⟨#[73]⟩ : ByteArray)) = False := eq_false (by decide)
        have e3 : (fn 3 = (⟨#[83]⟩ : ByteArray)) = True := eq_true (by decide)
        have e4 : (fn 3 = (⟨#[66]⟩ : ByteArray)) = False := eq_false (by decide)
        have e5 : (fn 3 = (⟨#[85]⟩ : ByteArray)) = False := eq_false (by decide)
        have e6 : (fn 3 = (⟨#[74]⟩ : ByteArray)) = False := eq_false (by decide)
        have e7 : (fn 3 = (⟨#[83, 104, 105, 102, 116]⟩ : ByteArray)) = False := eq_false (by decide)
        have e8 : (fn 3 = (⟨#[83, 104, 105, 102, 116, 87]⟩ : ByteArray)) = False := eq_false (by decide)
        (try simp only [go_sem, List.reduceReplicate, Nat.reduceAdd, Nat.reduceMul, Nat.reduceSub, Nat.reduceBEq, Nat.reduceEqDiff, Nat.reduceLeDiff, Nat.reduceLT, Int.reduceLE, Int.reduceLT, Int.reduceAdd, Int.reduceSub, Int.reduceNeg, Int.reduceToNat, Int.reduceEq, ↓reduceIte, reduceCtorEq, e2, e3, e4, e5, e6, e7, e8]; repeat (simp (disch := omega) only [w64_d, ipos, ineg, dpos, dneg]; try simp only [go_sem, List.reduceReplicate, Nat.reduceAdd, Nat.reduceMul, Nat.reduceSub, Nat.reduceBEq, Nat.reduceEqDiff, Nat.reduceLeDiff, Nat.reduceLT, Int.reduceLE, Int.reduceLT, Int.reduceAdd, Int.reduceSub, Int.reduceNeg, Int.reduceToNat, Int.reduceEq, ↓reduceIte, reduceCtorEq, e2, e3, e4, e5, e6, e7, e8]))
        refine arun_for 5 (fun k => ([(0, .c (.s (fn 3))), (2, .c .nils), (3, .c (.b false)), (4, .c (.sl H.length 0 k k)), (6, .c (.i (k : Int)))], H ++ [.vec 1 (((plL 3).take k).flatMap encI)])) (Wk.trans (Wk.nil 4 1 (by decide) rfl (Nat.le_refl _)) (Wk.fr (by simp [Am.get]))) fun k hk => ?_
        have e1 : w64 ((k : Int) + 1) = ((k + 1 : Nat) : Int) := by rw [w64_of (by omega)]; omega
        have e2 : w64 (7 + (k : Int)) = 7 + (k : Int) := w64_of (by omega)
        have ln : (((plL 3).take k).flatMap encI).length = k := by rw [eI_len, List.length_take]; exact Nat.min_eq_left (by show k ≤ 12; omega)
        by_cases hlt : k < 5
        · have hl2 : ((k : Int) < 5) := by omega
          have hb8 : (k + 1) * 8 ≤ 1099511627776 := by omega
          (try simp only [go_sem, List.reduceReplicate, Nat.reduceAdd, Nat.reduceMul, Nat.reduceSub, Nat.reduceBEq, Nat.reduceEqDiff, Nat.reduceLeDiff, Nat.reduceLT, Int.reduceLE, Int.reduceLT, Int.reduceAdd, Int.reduceSub, Int.reduceNeg, Int.reduceToNat, Int.reduceEq, ↓reduceIte, reduceCtorEq, e1, e2, e2, e3, e4, e5, e6, e7, e8, ln, hl2, hb8]; repeat (simp (disch := omega) only [w64_d, ipos, ineg, dpos, dneg]; try simp only [go_sem, List.reduceReplicate, Nat.reduceAdd, Nat.reduceMul, Nat.reduceSub, Nat.reduceBEq, Nat.reduceEqDiff, Nat.reduceLeDiff, Nat.reduceLT, Int.reduceLE, Int.reduceLT, Int.reduceAdd, Int.reduceSub, Int.reduceNeg, Int.reduceToNat, Int.reduceEq, ↓reduceIte, reduceCtorEq, e1, e2, e2, e3, e4, e5, e6, e7, e8, ln, hl2, hb8]))
          have cc : ((plL 3).take k).flatMap encI ++ [Sc.i (7 + (k : Int))] = ((plL 3).take (k + 1)).flatMap encI := by
            rcases (by omega : k = 0 ∨ k = 1 ∨ k = 2 ∨ k = 3 ∨ k = 4) with rfl | rfl | rfl | rfl | rfl <;> rfl
          exact ⟨k + 1, by omega, by omega, pl_step (d := 0) hH (Nat.le_refl _) cc (by simp [Am.get, Nat.add_assoc]) (by simp [AV.bel, Sc.bel])⟩
        obtain rfl : k = 5 := by omega
        (try simp only [go_sem, List.reduceReplicate, Nat.reduceAdd, Nat.reduceMul, Nat.reduceSub, Nat.reduceBEq, Nat.reduceEqDiff, Nat.reduceLeDiff, Nat.reduceLT, Int.reduceLE, Int.reduceLT, Int.reduceAdd, Int.reduceSub, Int.reduceNeg, Int.reduceToNat, Int.reduceEq, ↓reduceIte, reduceCtorEq, e2, e3, e4, e5, e6, e7, e8]; repeat (simp (disch := omega) only [w64_d, ipos, ineg, dpos, dneg]; try simp only [go_sem, List.reduceReplicate, Nat.reduceAdd, Nat.reduceMul, Nat.reduceSub, Nat.reduceBEq, Nat.reduceEqDiff, Nat.reduceLeDiff, Nat.reduceLT, Int.reduceLE, Int.reduceLT, Int.reduceAdd, Int.reduceSub, Int.reduceNeg, Int.reduceToNat, Int.reduceEq, ↓reduceIte, reduceCtorEq, e2, e3, e4, e5, e6, e7, e8]))
        refine arun_for 7 (fun k => ([(0, .c (.s (fn 3))), (2, .c .nils), (3, .c (.b false)), (4, .c (.sl H.length 0 (5 + k) (5 + k))), (7, .c (.i (k : Int)))], H ++ [.vec 1 (((plL 3).take (5 + k)).flatMap encI)])) (Wk.fr (by simp [Am.get])) fun k hk => ?_
        have e1 : w64 ((k : Int) + 1) = ((k + 1 : Nat) : Int) := by rw [w64_of (by omega)]; omega
        have e2 : w64 (25 + (k : Int)) = 25 + (k : Int) := w64_of (by omega)
        have ln : (((plL 3).take (5 + k)).flatMap encI).length = 5 + k := by rw [eI_len, List.length_take]; exact Nat.min_eq_left (by show 5 + k ≤ 12; omega)
        by_cases hlt : k < 7
        · have hl2 : ((k : Int) < 7) := by omega
          have hb8 : (5 + k + 1) * 8 ≤ 1099511627776 := by omega
          (try simp only [go_sem, List.reduceReplicate, Nat.reduceAdd, Nat.reduceMul, Nat.reduceSub, Nat.reduceBEq, Nat.reduceEqDiff, Nat.reduceLeDiff, Nat.reduceLT, Int.reduceLE, Int.reduceLT, Int.reduceAdd, Int.reduceSub, Int.reduceNeg, Int.reduceToNat, Int.reduceEq, ↓reduceIte, reduceCtorEq, e1, e2, e2, e3, e4, e5, e6, e7, e8, ln, hl2, hb8]; repeat (simp (disch := omega) only [w64_d, ipos, ineg, dpos, dneg]; try simp only [go_sem, List.reduceReplicate, Nat.reduceAdd, Nat.reduceMul, Nat.reduceSub, Nat.reduceBEq, Nat.reduceEqDiff, Nat.reduceLeDiff, Nat.reduceLT, Int.reduceLE, Int.reduceLT, Int.reduceAdd, Int.reduceSub, Int.reduceNeg, Int.reduceToNat, Int.reduceEq, ↓reduceIte, reduceCtorEq, e1, e2, e2, e3, e4, e5, e6, e7, e8, ln, hl2, hb8]))
          have cc : ((plL 3).take (5 + k)).flatMap encI ++ [Sc.i (25 + (k : Int))] = ((plL 3).take (5 + (k + 1))).flatMap encI := by
            rcases (by omega : k = 0 ∨ k = 1 ∨ k = 2 ∨ k = 3 ∨ k = 4 ∨ k = 5 ∨ k = 6) with rfl | rfl | rfl | rfl | rfl | rfl | rfl <;> rfl
          exact ⟨k + 1, by omega, by omega, pl_step (d := 0) hH (Nat.le_refl _) cc (by simp [Am.get, Nat.add_assoc]) (by simp [AV.bel, Sc.bel])⟩
        obtain rfl : k = 7 := by omega
        (try simp only [go_sem, List.reduceReplicate, Nat.reduceAdd, Nat.reduceMul, Nat.reduceSub, Nat.reduceBEq, Nat.reduceEqDiff, Nat.reduceLeDiff, Nat.reduceLT, Int.reduceLE, Int.reduceLT, Int.reduceAdd, Int.reduceSub, Int.reduceNeg, Int.reduceToNat, Int.reduceEq, ↓reduceIte, reduceCtorEq, e2, e3, e4, e5, e6, e7, e8]; repeat (simp (disch := omega) only [w64_d, ipos, ineg, dpos, dneg]; try simp only [go_sem, List.reduceReplicate, Nat.reduceAdd, Nat.reduceMul, Nat.reduceSub, Nat.reduceBEq, Nat.reduceEqDiff, Nat.reduceLeDiff, Nat.reduceLT, Int.reduceLE, Int.reduceLT, Int.reduceAdd, Int.reduceSub, Int.reduceNeg, Int.reduceToNat, Int.reduceEq, ↓reduceIte, reduceCtorEq, e2, e3, e4, e5, e6, e7, e8]))
        exact fin_same
      · simp [plL, plS] at h
        obtain ⟨rfl, rfl⟩ := h
        have e2 : (fn 4 = (⟨#[73]⟩ : ByteArray)) = False := eq_false (by decide)
        have e3 : (fn 4 = (⟨#[83]⟩ : ByteArray)) = False := eq_false (by decide)
        have e4 : (fn 4 = (⟨#[66]⟩ : ByteArray)) = True := eq_true (by decide)
        have e5 : (fn 4 = (⟨#[85]⟩ : ByteArray)) = False := eq_false (by decide)
        have e6 : (fn 4 = (⟨#[74]⟩ : ByteArray)) = False := eq_false (by decide)
        have e7 : (fn 4 = (⟨#[83, 104, 105, 102, 116]⟩ : ByteArray)) = False := eq_false (by decide)
        have e8 : (fn 4 = (⟨#[83, 104, 105, 102, 116, 87]⟩ : ByteArray)) = False := eq_false (by decide)
        (try simp only [go_sem, List.reduceReplicate, Nat.reduceAdd, Nat.reduceMul, Nat.reduceSub, Nat.reduceBEq, Nat.reduceEqDiff, Nat.reduceLeDiff, Nat.reduceLT, Int.reduceLE, Int.reduceLT, Int.reduceAdd, Int.reduceSub, Int.reduceNeg, Int.reduceToNat, Int.reduceEq, ↓reduceIte, reduceCtorEq, e2, e3, e4, e5, e6, e7, e8]; repeat (simp (disch := omega) only [w64_d, ipos, ineg, dpos, dneg]; try simp only [go_sem, List.reduceReplicate, Nat.reduceAdd, Nat.reduceMul, Nat.reduceSub, Nat.reduceBEq, Nat.reduceEqDiff, Nat.reduceLeDiff, Nat.reduceLT, Int.reduceLE, Int.reduceLT, Int.reduceAdd, Int.reduceSub, Int.reduceNeg, Int.reduceToNat, Int.reduceEq, ↓reduceIte, reduceCtorEq, e2, e3, e4, e5, e6, e7, e8]))
        exact fin_same
      · simp [plL, plS] at h
        obtain ⟨rfl, rfl⟩ := h
        have e2 : (fn 5 = (⟨#[73]⟩ : ByteArray)) = False := eq_false (by decide)
        have e3 : (fn 5 = (⟨#[83]⟩ : ByteArray)) = False := eq_false (by decide)
        have e4 : (fn 5 = (⟨#[66]⟩ : ByteArray)) = False := eq_false (by decide)
        have e5 : (fn 5 = (⟨#[85]⟩ : ByteArray)) = True := eq_true (by decide)
        have e6 : (fn 5 = (⟨#[74]⟩ : ByteArray)) = False := eq_false (by decide)
        have e7 : (fn 5 = (⟨#[83, 104, 105, 102, 116]⟩ : ByteArray)) = False := eq_false (by decide)
        have e8 : (fn 5 = (⟨#[83, 104, 105, 102, 116, 87]⟩ : ByteArray)) = False := eq_false (by decide)
        (try simp only [go_sem, List.reduceReplicate, Nat.reduceAdd, Nat.reduceMul, Nat.reduceSub, Nat.reduceBEq, Nat.reduceEqDiff, Nat.reduceLeDiff, Nat.reduceLT, Int.reduceLE, Int.reduceLT, Int.reduceAdd, Int.reduceSub, Int.reduceNeg, Int.reduceToNat, Int.reduceEq, ↓reduceIte, reduceCtorEq, e2, e3, e4, e5, e6, e7, e8]; repeat (simp (disch := omega) only [w64_d, ipos, ineg, dpos, dneg]; try simp only [go_sem, List.reduceReplicate, Nat.reduceAdd, Nat.reduceMul, Nat.reduceSub, Nat.reduceBEq, Nat.reduceEqDiff, Nat.reduceLeDiff, Nat.reduceLT, Int.reduceLE, Int.reduceLT, Int.reduceAdd, Int.reduceSub, Int.reduceNeg, Int.reduceToNat, Int.reduceEq, ↓reduceIte, reduceCtorEq, e2, e3, e4, e5, e6, e7, e8]))
        refine arun_for 12 (fun k => ([(0, .c (.s (fn 5))), (2, .c .nils), (3, .c (.b false)), (4, .c (.sl H.length 0 k k)), (8, .c (.i (k : Int)))], H ++ [.vec 1 (((plL 5).take k).flatMap encI)])) (Wk.trans (Wk.nil 4 1 (by decide) rfl (Nat.le_refl _)) (Wk.fr (by simp [Am.get]))) fun k hk => ?_
        have e1 : w64 ((k : Int) + 1) = ((k + 1 : Nat) : Int) := by rw [w64_of (by omega)]; omega
        have ln : (((plL 5).take k).flatMap encI).length = k := by rw [eI_len, List.length_take]; exact Nat.min_eq_left (by show k ≤ 32; omega)
        by_cases hlt : k < 12
        · have hl2 : ((k : Int) < 12) := by omega
          have hb8 : (k + 1) * 8 ≤ 1099511627776 := by omega
          (try simp only [go_sem, List.reduceReplicate, Nat.reduceAdd, Nat.reduceMul, Nat.reduceSub, Nat.reduceBEq, Nat.reduceEqDiff, Nat.reduceLeDiff, Nat.reduceLT, Int.reduceLE, Int.reduceLT, Int.reduceAdd, Int.reduceSub, Int.reduceNeg, Int.reduceToNat, Int.reduceEq, ↓reduceIte, reduceCtorEq, e1, e2, e3, e4, e5, e6, e7, e8, ln, hl2, hb8]; repeat (simp (disch := omega) only [w64_d, ipos, ineg, dpos, dneg]; try simp only [go_sem, List.reduceReplicate, Nat.reduceAdd, Nat.reduceMul, Nat.reduceSub, Nat.reduceBEq, Nat.reduceEqDiff, Nat.reduceLeDiff, Nat.reduceLT, Int.reduceLE, Int.reduceLT, Int.reduceAdd, Int.reduceSub, Int.reduceNeg, Int.reduceToNat, Int.reduceEq, ↓reduceIte, reduceCtorEq, e1, e2, e3, e4, e5, e6, e7, e8, ln, hl2, hb8]))
          have cc : ((plL 5).take k).flatMap encI ++ [Sc.i (-1)] = ((plL 5).take (k + 1)).flatMap encI := by
            rcases (by omega : k = 0 ∨ k = 1 ∨ k = 2 ∨ k = 3 ∨ k = 4 ∨ k = 5 ∨ k = 6 ∨ k = 7 ∨ k = 8 ∨ k = 9 ∨ k = 10 ∨ k = 11) with rfl | rfl | rfl | rfl | rfl | rfl | rfl | rfl | rfl | rfl | rfl | rfl <;> rfl
          exact ⟨k + 1, by omega, by omega, pl_step (d := 0) hH (Nat.le_refl _) cc (by simp [Am.get, Nat.add_assoc]) (by simp [AV.bel, Sc.bel])⟩
        obtain rfl : k = 12 := by omega
        (try simp only [go_sem, List.reduceReplicate, Nat.reduceAdd, Nat.reduceMul, Nat.reduceSub, Nat.reduceBEq, Nat.reduceEqDiff, Nat.reduceLeDiff, Nat.reduceLT, Int.reduceLE, Int.reduceLT, Int.reduceAdd, Int.reduceSub, Int.reduceNeg, Int.reduceToNat, Int.reduceEq, ↓reduceIte, reduceCtorEq, e2, e3, e4, e5, e6, e7, e8]; repeat (simp (disch := omega) only [w64_d, ipos, ineg, dpos, dneg]; try simp only [go_sem, List.reduceReplicate, Nat.reduceAdd, Nat.reduceMul, Nat.reduceSub, Nat.reduceBEq, Nat.reduceEqDiff, Nat.reduceLeDiff, Nat.reduceLT, Int.reduceLE, Int.reduceLT, Int.reduceAdd, Int.reduceSub, Int.reduceNeg, Int.reduceToNat, Int.reduceEq, ↓reduceIte, reduceCtorEq, e2, e3, e4, e5, e6, e7, e8]))
        refine arun_for 20 (fun k => ([(0, .c (.s (fn 5))), (2, .c .nils), (3, .c (.b false)), (4, .c (.sl H.length 0 (12 + k) (12 + k))), (9, .c (.i ((k + 12 : Nat) : Int)))], H ++ [.vec 1 (((plL 5).take (12 + k)).flatMap encI)])) (Wk.fr (by simp [Am.get])) fun k hk => ?_
        have e1 : w64 (((k + 12 : Nat) : Int) + 1) = ((k + 1 + 12 : Nat) : Int) := by rw [w64_of (by omega)]; omega
        have ln : (((plL 5).take (12 + k)).flatMap encI).length = 12 + k := by rw [eI_len, List.length_take]; exact Nat.min_eq_left (by show 12 + k ≤ 32; omega)
        by_cases hlt : k < 20
        · have hl2 : (((k + 12 : Nat) : Int) < 32) := by omega
          have hb8 : (12 + k + 1) * 8 ≤ 1099511627776 := by omega
          (try simp only [go_sem, List.reduceReplicate, Nat.reduceAdd, Nat.reduceMul, Nat.reduceSub, Nat.reduceBEq, Nat.reduceEqDiff, Nat.reduceLeDiff, Nat.reduceLT, Int.reduceLE, Int.reduceLT, Int.reduceAdd, Int.reduceSub, Int.reduceNeg, Int.reduceToNat, Int.reduceEq, ↓reduceIte, reduceCtorEq, e1, e2, e3, e4, e5, e6, e7, e8, ln, hl2, hb8]; repeat (simp (disch := omega) only [w64_d, ipos, ineg, dpos, dneg]; try simp only [go_sem, List.reduceReplicate, Nat.reduceAdd, Nat.reduceMul, Nat.reduceSub, Nat.reduceBEq, Nat.reduceEqDiff, Nat.reduceLeDiff, Nat.reduceLT, Int.reduceLE, Int.reduceLT, Int.reduceAdd, Int.reduceSub, Int.reduceNeg, Int.reduceToNat, Int.reduceEq, ↓reduceIte, reduceCtorEq, e1, e2, e3, e4, e5, e6, e7, e8, ln, hl2, hb8]))
          have cc : ((plL 5).take (12 + k)).flatMap encI ++ [Sc.i ((k + 12 : Nat) : Int)] = ((plL 5).take (12 + (k + 1))).flatMap encI := by
            rcases (by omega : k = 0 ∨ k = 1 ∨ k = 2 ∨ k = 3 ∨ k = 4 ∨ k = 5 ∨ k = 6 ∨ k = 7 ∨ k = 8 ∨ k = 9 ∨ k = 10 ∨ k = 11 ∨ k = 12 ∨ k = 13 ∨ k = 14 ∨ k = 15 ∨ k = 16 ∨ k = 17 ∨ k = 18 ∨ k = 19) with rfl | rfl | rfl | rfl | rfl | rfl | rfl | rfl | rfl | rfl | rfl | rfl | rfl | rfl | rfl | rfl | rfl | rfl | rfl | rfl <;> rfl
          exact ⟨k + 1, by omega, by omega, pl_step (d := 0) hH (Nat.le_refl _) cc (by simp [Am.get, Nat.add_assoc]) (by simp [AV.bel, Sc.bel])⟩
        obtain rfl : k = 20 := by omega
        (try simp only [go_sem, List.reduceReplicate, Nat.reduceAdd, Nat.reduceMul, Nat.reduceSub, Nat.reduceBEq, Nat.reduceEqDiff, Nat.reduceLeDiff, Nat.reduceLT, Int.reduceLE, Int.reduceLT, Int.reduceAdd, Int.reduceSub, Int.reduceNeg, Int.reduceToNat, Int.reduceEq, ↓reduceIte, reduceCtorEq, e2, e3, e4, e5, e6, e7, e8]; repeat (simp (disch := omega) only [w64_d, ipos, ineg, dpos, dneg]; try simp only [go_sem, List.reduceReplicate, Nat.reduceAdd, Nat.reduceMul, Nat.reduceSub, Nat.reduceBEq, Nat.reduceEqDiff, Nat.reduceLeDiff, Nat.reduceLT, Int.reduceLE, Int.reduceLT, Int.reduceAdd, Int.reduceSub, Int.reduceNeg, Int.reduceToNat, Int.reduceEq, ↓reduceIte, reduceCtorEq, e2, e3, e4, e5, e6, e7, e8]))
        exact fin_same
      · simp [plL, plS] at h
        obtain ⟨rfl, rfl⟩ := h
        have e2 : (fn 6 = (⟨#[73]⟩ : ByteArray)) = False := eq_false (by decide)
        have e3 : (fn 6 = (⟨#[83]⟩ : ByteArray)) = False := eq_false (by decide)
        have e4 : (fn 6 = (⟨#[66]⟩ : ByteArray)) = False := eq_false (by decide)
        have e5 : (fn 6 = (⟨#[85]⟩ : ByteArray)) = False := eq_false (by decide)
        have e6 : (fn 6 = (⟨#[74]⟩ : ByteArray)) = True := eq_true (by decide)
        have e7 : (fn 6 = (⟨#[83, 104, 105, 102, 116]⟩ : ByteArray)) = False := eq_false (by decide)
        have e8 : (fn 6 = (⟨#[83, 104, 105, 102, 116, 87]⟩ : ByteArray)) = False := eq_false (by decide)
        (try simp only [go_sem, List.reduceReplicate, Nat.reduceAdd, Nat.reduceMul, Nat.reduceSub, Nat.reduceBEq, Nat.reduceEqDiff, Nat.reduceLeDiff, Nat.reduceLT, Int.reduceLE, Int.reduceLT, Int.reduceAdd, Int.reduceSub, Int.reduceNeg, Int.reduceToNat, Int.reduceEq, ↓reduceIte, reduceCtorEq, e2, e3, e4, e5, e6, e7, e8]; repeat (simp (disch := omega) only [w64_d, ipos, ineg, dpos, dneg]; try simp only [go_sem, List.reduceReplicate, Nat.reduceAdd, Nat.reduceMul, Nat.reduceSub, Nat.reduceBEq, Nat.reduceEqDiff, Nat.reduceLeDiff, Nat.reduceLT, Int.reduceLE, Int.reduceLT, Int.reduceAdd, Int.reduceSub, Int.reduceNeg, Int.reduceToNat, Int.reduceEq, ↓reduceIte, reduceCtorEq, e2, e3, e4, e5, e6, e7, e8]))
        exact fin_same
      · simp [plL, plS] at h
        obtain ⟨rfl, rfl⟩ := h
        have e2 : (fn 7 = (⟨#[73]⟩ : ByteArray)) = False := eq_false (by decide)
        have e3 : (fn 7 = (⟨#[83]⟩ : ByteArray)) = False := eq_false (by decide)
        have e4 : (fn 7 = (⟨#[66]⟩ : ByteArray)) = False := eq_false (by decide)
        have e5 : (fn 7 = (⟨#[85]⟩ : ByteArray)) = False := eq_false (by decide)
        have e6 : (fn 7 = (⟨#[74]⟩ : ByteArray)) = False := eq_false (by decide)
        have e7 : (fn 7 = (⟨#[83, 104, 105, 102, 116]⟩ : ByteArray)) = True := eq_true (by decide)
        have e8 : (fn 7 = (⟨#[83, 104, 105, 102, 116, 87]⟩ : ByteArray)) = False := eq_false (by decide)
        (try simp only [go_sem, List.reduceReplicate, Nat.reduceAdd, Nat.reduceMul, Nat.reduceSub, Nat.reduceBEq, Nat.reduceEqDiff, Nat.reduceLeDiff, Nat.reduceLT, Int.reduceLE, Int.reduceLT, Int.reduceAdd, Int.reduceSub, Int.reduceNeg, Int.reduceToNat, Int.reduceEq, ↓reduceIte, reduceCtorEq, e2, e3, e4, e5, e6, e7, e8]; repeat (simp (disch := omega) only [w64_d, ipos, ineg, dpos, dneg]; try simp only [go_sem, List.reduceReplicate, Nat.reduceAdd, Nat.reduceMul, Nat.reduceSub, Nat.reduceBEq, Nat.reduceEqDiff, Nat.reduceLeDiff, Nat.reduceLT, Int.reduceLE, Int.reduceLT, Int.reduceAdd, Int.reduceSub, Int.reduceNeg, Int.reduceToNat, Int.reduceEq, ↓reduceIte, reduceCtorEq, e2, e3, e4, e5, e6, e7, e8]))
        exact fin_same
      · simp [plL, plS] at h
        obtain ⟨rfl, rfl⟩ := h
        have e2 : (fn 8 = (⟨#[73]⟩ : ByteArray)) = False := eq_false (by decide)
        have e3 : (fn 8 = (⟨#[83]⟩ : ByteArray)) = False := eq_false (by decide)
        have e4 : (fn 8 = (⟨#[66]⟩ : ByteArray)) = False := eq_false (by decide)
        have e5 : (fn 8 = (⟨#[85]⟩ : ByteArray)) = False := eq_false (by decide)
        have e6 : (fn 8 = (⟨#[74]⟩ : ByteArray)) = False := eq_false (by decide)
        have e7 : (fn 8 = (⟨#[83, 104, 105, 102, 116]⟩ : ByteArray)) = False := eq_false (by decide)
        have e8 : (fn 8 = (⟨#[83, 104, 105, 102, 116, 87]⟩ : ByteArray)) = True := eq_true (by decide)
        (try simp only [go_sem, List.reduceReplicate, Nat.reduceAdd, Nat.reduceMul, Nat.reduceSub, Nat.reduceBEq, Nat.reduceEqDiff, Nat.reduceLeDiff, Nat.reduceLT, Int.reduceLE, Int.reduceLT, Int.reduceAdd, Int.reduceSub, Int.reduceNeg, Int.reduceToNat, Int.reduceEq, ↓reduceIte, reduceCtorEq, e2, e3, e4, e5, e6, e7, e8]; repeat (simp (disch := omega) only [w64_d, ipos, ineg, dpos, dneg]; try simp only [go_sem, List.reduceReplicate, Nat.reduceAdd, Nat.reduceMul, Nat.reduceSub, Nat.reduceBEq, Nat.reduceEqDiff, Nat.reduceLeDiff, Nat.reduceLT, Int.reduceLE, Int.reduceLT, Int.reduceAdd, Int.reduceSub, Int.reduceNeg, Int.reduceToNat, Int.reduceEq, ↓reduceIte, reduceCtorEq, e2, e3, e4, e5, e6, e7, e8]))
        exact fin_same
      · simp [plL, plS] at h
        obtain ⟨rfl, rfl⟩ := h
        have e2 : (fn 9 = (⟨#[73]⟩ : ByteArray)) = False := eq_false (by decide)
        have e3 : (fn 9 = (⟨#[83]⟩ : ByteArray)) = False := eq_false (by decide)
        have e4 : (fn 9 = (⟨#[66]⟩ : ByteArray)) = False := eq_false (by decide)
        have e5 : (fn 9 = (⟨#[85]⟩ : ByteArray)) = False := eq_false (by decide)
        have e6 : (fn 9 = (⟨#[74]⟩ : ByteArray)) = False := eq_false (by decide)
        have e7 : (fn 9 = (⟨#[83, 104, 105, 102, 116]⟩ : ByteArray)) = False := eq_false (by decide)
        have e8 : (fn 9 = (⟨#[83, 104, 105, 102, 116, 87]⟩ : ByteArray)) = False := eq_false (by decide)
        (try simp only [go_sem, List.reduceReplicate, Nat.reduceAdd, Nat.reduceMul, Nat.reduceSub, Nat.reduceBEq, Nat.reduceEqDiff, Nat.reduceLeDiff, Nat.reduceLT, Int.reduceLE, Int.reduceLT, Int.reduceAdd, Int.reduceSub, Int.reduceNeg, Int.reduceToNat, Int.reduceEq, ↓reduceIte, reduceCtorEq, e2, e3, e4, e5, e6, e7, e8]; repeat (simp (disch := omega) only [w64_d, ipos, ineg, dpos, dneg]; try simp only [go_sem, List.reduceReplicate, Nat.reduceAdd, Nat.reduceMul, Nat.reduceSub, Nat.reduceBEq, Nat.reduceEqDiff, Nat.reduceLeDiff, Nat.reduceLT, Int.reduceLE, Int.reduceLT, Int.reduceAdd, Int.reduceSub, Int.reduceNeg, Int.reduceToNat, Int.reduceEq, ↓reduceIte, reduceCtorEq, e2, e3, e4, e5, e6, e7, e8]))
        exact fin_same
      · simp [plL, plS] at h
        obtain ⟨rfl, rfl⟩ := h
        have e2 : (fn 10 = (⟨#[73]⟩ : ByteArray)) = False := eq_false (by decide)
        have e3 : (fn 10 = (⟨#[83]⟩ : ByteArray)) = False := eq_false (by decide)
        have e4 : (fn 10 = (⟨#[66]⟩ : ByteArray)) = False := eq_false (by decide)
        have e5 : (fn 10 = (⟨#[85]⟩ : ByteArray)) = False := eq_false (by decide)
        have e6 : (fn 10 = (⟨#[74]⟩ : ByteArray)) = False := eq_false (by decide)
        have e7 : (fn 10 = (⟨#[83, 104, 105, 102, 116]⟩ : ByteArray)) = False := eq_false (by decide)
        have e8 : (fn 10 = (⟨#[83, 104, 105, 102, 116, 87]⟩ : ByteArray)) = False := eq_false (by decide)
        (try simp only [go_sem, List.reduceReplicate, Nat.reduceAdd, Nat.reduceMul, Nat.reduceSub, Nat.reduceBEq, Nat.reduceEqDiff, Nat.reduceLeDiff, Nat.reduceLT, Int.reduceLE, Int.reduceLT, Int.reduceAdd, Int.reduceSub, Int.reduceNeg, Int.reduceToNat, Int.reduceEq, ↓reduceIte, reduceCtorEq, e2, e3, e4, e5, e6, e7, e8]; repeat (simp (disch := omega) only [w64_d, ipos, ineg, dpos, dneg]; try simp only [go_sem, List.reduceReplicate, Nat.reduceAdd, Nat.reduceMul, Nat.reduceSub, Nat.reduceBEq, Nat.reduceEqDiff, Nat.reduceLeDiff, Nat.reduceLT, Int.reduceLE, Int.reduceLT, Int.reduceAdd, Int.reduceSub, Int.reduceNeg, Int.reduceToNat, Int.reduceEq, ↓reduceIte, reduceCtorEq, e2, e3, e4, e5, e6, e7, e8]))
        exact fin_same
      · simp [plL, plS] at h
        obtain ⟨rfl, rfl⟩ := h
        have e2 : (fn 11 = (⟨#[73]⟩ : ByteArray)) = False := eq_false (by decide)
        have e3 : (fn 11 = (⟨#[83]⟩ : ByteArray)) = False := eq_false (by decide)
        have e4 : (fn 11 = (⟨#[66]⟩ : ByteArray)) = False := eq_false (by decide)
        have e5 : (fn 11 = (⟨#[85]⟩ : ByteArray)) = False := eq_false (by decide)
        have e6 : (fn 11 = (⟨#[74]⟩ : ByteArray)) = False := eq_false (by decide)
        have e7 : (fn 11 = (⟨#[83, 104, 105, 102, 116]⟩ : ByteArray)) = False := eq_false (by decide)
        have e8 : (fn 11 = (⟨#[83, 104, 105, 102, 116, 87]⟩ : ByteArray)) = False := eq_false (by decide)
        (try simp only [go_sem, List.reduceReplicate, Nat.reduceAdd, Nat.reduceMul, Nat.reduceSub, Nat.reduceBEq, Nat.reduceEqDiff, Nat.reduceLeDiff, Nat.reduceLT, Int.reduceLE, Int.reduceLT, Int.reduceAdd, Int.reduceSub, Int.reduceNeg, Int.reduceToNat, Int.reduceEq, ↓reduceIte, reduceCtorEq, e2, e3, e4, e5, e6, e7, e8]; repeat (simp (disch := omega) only [w64_d, ipos, ineg, dpos, dneg]; try simp only [go_sem, List.reduceReplicate, Nat.reduceAdd, Nat.reduceMul, Nat.reduceSub, Nat.reduceBEq, Nat.reduceEqDiff, Nat.reduceLeDiff, Nat.reduceLT, Int.reduceLE, Int.reduceLT, Int.reduceAdd, Int.reduceSub, Int.reduceNeg, Int.reduceToNat, Int.reduceEq, ↓reduceIte, reduceCtorEq, e2, e3, e4, e5, e6, e7, e8]))
        exact fin_same
      · simp [plL, plS] at h
        obtain ⟨rfl, rfl⟩ := h
        have e2 : (fn 12 = (⟨#[73]⟩ : ByteArray)) = False := eq_false (by decide)
        have e3 : (fn 12 = (⟨#[83]⟩ : ByteArray)) = False := eq_false (by decide)
        have e4 : (fn 12 = (⟨#[66]⟩ : ByteArray)) = False := eq_false (by decide)
        have e5 : (fn 12 = (⟨#[85]⟩ : ByteArray)) = False := eq_false (by decide)
        have e6 : (fn 12 = (⟨#[74]⟩ : ByteArray)) = False := eq_false (by decide)
        have e7 : (fn 12 = (⟨#[83, 104, 105, 102, 116]⟩ : ByteArray)) = False := eq_false (by decide)
        have e8 : (fn 12 = (⟨#[83, 104, 105, 102, 116, 87]⟩ : ByteArray)) = False := eq_false (by decide)
        (try simp only [go_sem, List.reduceReplicate, Nat.reduceAdd, Nat.reduceMul, Nat.reduceSub, Nat.reduceBEq, Nat.reduceEqDiff, Nat.reduceLeDiff, Nat.reduceLT, Int.reduceLE, Int.reduceLT, Int.reduceAdd, Int.reduceSub, Int.reduceNeg, Int.reduceToNat, Int.reduceEq, ↓reduceIte, reduceCtorEq, e2, e3, e4, e5, e6, e7, e8]; repeat (simp (disch := omega) only [w64_d, ipos, ineg, dpos, dneg]; try simp only [go_sem, List.reduceReplicate, Nat.reduceAdd, Nat.reduceMul, Nat.reduceSub, Nat.reduceBEq, Nat.reduceEqDiff, Nat.reduceLeDiff, Nat.reduceLT, Int.reduceLE, Int.reduceLT, Int.reduceAdd, Int.reduceSub, Int.reduceNeg, Int.reduceToNat, Int.reduceEq, ↓reduceIte, reduceCtorEq, e2, e3, e4, e5, e6, e7, e8]))
        exact fin_same
      · simp [plL, plS] at h
        obtain ⟨rfl, rfl⟩ := h
        have e2 : (fn 13 = (⟨#[73]⟩ : ByteArray)) = False := eq_false (by decide)
        have e3 : (fn 13 = (⟨#[83]⟩ : ByteArray)) = False := eq_false (by decide)
        have e4 : (fn 13 = (⟨#[66]⟩ : ByteArray)) = False := eq_false (by decide)
        have e5 : (fn 13 = (⟨#[85]⟩ : ByteArray)) = False := eq_false (by decide)
        have e6 : (fn 13 = (⟨#[74]⟩ : ByteArray)) = False := eq_false (by decide)
        have e7 : (fn 13 = (⟨#[83, 104, 105, 102, 116]⟩ : ByteArray)) = False := eq_false (by decide)
        have e8 : (fn 13 = (⟨#[83, 104, 105, 102, 116, 87]⟩ : ByteArray)) = False := eq_false (by decide)
        (try simp only [go_sem, List.reduceReplicate, Nat.reduceAdd, Nat.reduceMul, Nat.reduceSub, Nat.reduceBEq, Nat.reduceEqDiff, Nat.reduceLeDiff, Nat.reduceLT, Int.reduceLE, Int.reduceLT, Int.reduceAdd, Int.reduceSub, Int.reduceNeg, Int.reduceToNat, Int.reduceEq, ↓reduceIte, reduceCtorEq, e2, e3, e4, e5, e6, e7, e8]; repeat (simp (disch := omega) only [w64_d, ipos, ineg, dpos, dneg]; try simp only [go_sem, List.reduceReplicate, Nat.reduceAdd, Nat.reduceMul, Nat.reduceSub, Nat.reduceBEq, Nat.reduceEqDiff, Nat.reduceLeDiff, Nat.reduceLT, Int.reduceLE, Int.reduceLT, Int.reduceAdd, Int.reduceSub, Int.reduceNeg, Int.reduceToNat, Int.reduceEq, ↓reduceIte, reduceCtorEq, e2, e3, e4, e5, e6, e7, e8]))
        exact fin_same
      · simp [plL, plS] at h
        obtain ⟨rfl, rfl⟩ := h
        have e2 : (fn 14 = (⟨#[73]⟩ : ByteArray)) = False := eq_false (by decide)
        have e3 : (fn 14 = (⟨#[83]⟩ : ByteArray)) = False := eq_false (by decide)
        have e4 : (fn 14 = (⟨#[66]⟩ : ByteArray)) = False := eq_false (by decide)
        have e5 : (fn 14 = (⟨#[85]⟩ : ByteArray)) = False := eq_false (by decide)
        have e6 : (fn 14 = (⟨#[74]⟩ : ByteArray)) = False := eq_false (by decide)
        have e7 : (fn 14 = (⟨#[83, 104, 105, 102, 116]⟩ : ByteArray)) = False := eq_false (by decide)
        have e8 : (fn 14 = (⟨#[83, 104, 105, 102, 116, 87]⟩ : ByteArray)) = False := eq_false (by decide)
        (try simp only [go_sem, List.reduceReplicate, Nat.reduceAdd, Nat.reduceMul, Nat.reduceSub, Nat.reduceBEq, Nat.reduceEqDiff, Nat.reduceLeDiff, Nat.reduceLT, Int.reduceLE, Int.reduceLT, Int.reduceAdd, Int.reduceSub, Int.reduceNeg, Int.reduceToNat, Int.reduceEq, ↓reduceIte, reduceCtorEq, e2, e3, e4, e5, e6, e7, e8]; repeat (simp (disch := omega) only [w64_d, ipos, ineg, dpos, dneg]; try simp only [go_sem, List.reduceReplicate, Nat.reduceAdd, Nat.reduceMul, Nat.reduceSub, Nat.reduceBEq, Nat.reduceEqDiff, Nat.reduceLeDiff, Nat.reduceLT, Int.reduceLE, Int.reduceLT, Int.reduceAdd, Int.reduceSub, Int.reduceNeg, Int.reduceToNat, Int.reduceEq, ↓reduceIte, reduceCtorEq, e2, e3, e4, e5, e6, e7, e8]))
        exact fin_same
    · simp at h
  · simp at h
end
end Go.Proofs.Ytcfnfdafcfpohaa
