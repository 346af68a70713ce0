/- Contracts of layer 2's products, the reference's too. -/
import Derived.Test.YtflcjnekmjdckaaWideS
namespace Go.Proofs.Ytflcjnekmjdckaa
open Go.Am
set_option linter.unusedSimpArgs false
set_option linter.unusedVariables false
noncomputable section

def s_digits (args : List AV) (H : AH) : Option (AV × AH) :=
  match args with
  | [.c (.u w)] => some (.c (.sl H.length 0 4 4), H ++ [.vec 1 [.u (w % 65536#64), .u (w / 65536#64 % 65536#64), .u (w / 4294967296#64 % 65536#64), .u (w / 281474976710656#64)]])
  | _ => none
theorem s_digits_eq {w : BitVec 64} {H : AH} : s_digits [.c (.u w)] H = some (.c (.sl H.length 0 4 4), H ++ [.vec 1 [.u (w % 65536#64), .u (w / 65536#64 % 65536#64), .u (w / 4294967296#64 % 65536#64), .u (w / 281474976710656#64)]]) := rfl
theorem len_digits (args : List AV) (H : AH) (v : AV) (H1 : AH) (h : s_digits args H = some (v, H1)) : H.length ≤ H1.length := by
  unfold s_digits at h
  split at h <;> simp at h
  rw [← h.2]; simp
set_option maxRecDepth 100000 in
set_option maxHeartbeats 2000000 in
theorem ok_digits : FpOk Try.prog 84 s_digits := by
  refine fp_ok (s := s_digits) (tab := []) hmix TabOk.nil Try.func84 rfl Try.results84 Try.ntmps84 (by kernel_rfl) (by kernel_rfl) len_digits ?_
  intro args H v H1 h hargs hH
  unfold s_digits at h
  split at h
  · rename_i w
    simp only [Option.some.injEq, Prod.mk.injEq] at h
    obtain ⟨rfl, rfl⟩ := h
    refine ⟨by simp only [List.length_cons, List.length_nil]; decide, ?_⟩
    simp (config := { maxSteps := 10000000 }) only [go_sem, seval]
    refine ⟨_, rfl, Wk.wk (by simp) (by simp [Am.get]) (by simp [AV.bel, Sc.bel]) (subH_refl _) ?_⟩
    simp only [List.all_append, List.all_cons, List.all_nil, Bool.and_true, Bool.and_eq_true, AObj.cells, AObj.scs, Sc.bel, and_true, List.length_append]
    refine List.all_eq_true.2 fun o ho => List.all_eq_true.2 fun s hs => ?_
    have := List.all_eq_true.1 (List.all_eq_true.1 hH o ho) s hs
    exact Sc.bel_mono this (by omega)
  · simp at h

/-- a word out of cells -/
def uOf : Sc → BitVec 64
  | .u x => x
  | _ => 0#64
def isU : Sc → Bool
  | .u _ => true
  | _ => false
def wv (l : List Sc) (a : Nat) : Nat → BitVec 64
  | 0 => 0#64
  | k + 1 => wv l a k * 65536#64 + uOf (l.getD (a + (3 - k)) .any)
def s_word (args : List AV) (H : AH) : Option AV :=
  match args with
  | [.c (.sl id 0 v n), .c (.i a)] => if 0 ≤ a ∧ a ≤ 1000 ∧ a + 4 ≤ n ∧ n ≤ (hg H id).cells.length ∧ v = (hg H id).row ∧ (hg H id).cells.all isU = true then some (.c (.u (wv (hg H id).cells a.toNat 4))) else none
  | _ => none
theorem s_word_eq {id v n : Nat} {a : Int} {H : AH} : s_word [.c (.sl id 0 v n), .c (.i a)] H = if 0 ≤ a ∧ a ≤ 1000 ∧ a + 4 ≤ n ∧ n ≤ (hg H id).cells.length ∧ v = (hg H id).row ∧ (hg H id).cells.all isU = true then some (.c (.u (wv (hg H id).cells a.toNat 4))) else none := rfl
theorem getU {l : List Sc} {i : Nat} (h : l.all isU = true) (hi : i < l.length) : l.getD i .any = .u (uOf (l.getD i .any)) := by
  have e : l.getD i .any = l[i] := by simp [List.getD_eq_getElem?_getD, hi]
  rw [e]
  have := List.all_eq_true.1 h l[i] (List.getElem_mem hi)
  cases hl : l[i] <;> rw [hl] at this <;> simp [isU] at this; rfl
set_option maxRecDepth 100000 in
set_option maxHeartbeats 2000000 in
theorem ok_word : FpOk Try.prog 85 (fun args H => (s_word args H).map fun v => (v, H)) := by
  refine fq_ok (s := s_word) (tab := []) hmix TabOk.nil Try.func85 rfl Try.results85 Try.ntmps85 (by kernel_rfl) (by kernel_rfl) ?_
  intro args H v h hargs hH
  unfold s_word at h
  split at h
  · rename_i id v n a
    split at h
    · rename_i hc
      obtain ⟨h0, h1, h2, h3, h4, h5⟩ := hc
      simp only [Option.some.injEq] at h
      subst h
      obtain ⟨m, rfl⟩ := Int.eq_ofNat_of_zero_le h0
      generalize hl : (hg H id).cells = l at *
      have lid : id < H.length := by
        refine hg_lt ?_
        cases hh : hg H id <;> first | rfl | (rw [hh] at hl; simp [AObj.cells, AObj.scs] at hl; subst hl; simp at h3; omega)
      refine ⟨by simp only [List.length_cons, List.length_nil]; decide, rfl, ?_⟩
      simp (config := { maxSteps := 10000000 }) only [go_sem, seval]
      rw [arun_loop]
      refine ⟨{k : Nat // k ≤ 4}, fun k => ([(0, .c (.sl id 0 v n)), (1, .c (.i m)), (5, .c (.u (wv l m k.1))), (6, .c (.i (3 - k.1)))], H), fun k => 4 - k.1, ⟨0, by omega⟩, ?_, ?_⟩
      · exact Wk.wk (by simp [lo]) (by simp [Am.get, wv]) (by simp [AV.bel, Sc.bel, lid]) (subH_refl _) hH
      · rintro ⟨k, hk⟩
        by_cases hlt : k < 4
        · have e1 : w64 (3 - (k : Int) - 1) = 3 - ((k + 1 : Nat) : Int) := by rw [w64_of (by omega)]; omega
          have e2 : ((0 : Int) ≤ 3 - (k : Int)) = True := by simp; omega
          have e3 : w64 ((m : Int) + (3 - (k : Int))) = ((m + (3 - k) : Nat) : Int) := by rw [w64_of (by omega)]; omega
          have e4 : (0 ≤ ((m + (3 - k) : Nat) : Int)) = True := by simp; omega
          have e5 : (((m + (3 - k) : Nat) : Int) < (n : Int)) = True := by simp; omega
          have e6 : (m + (3 - k) + 1 ≤ l.length) = True := by simp; omega
          have e7 := getU h5 (i := m + (3 - k)) (by omega)
          simp (config := { maxSteps := 10000000 }) only [go_sem, seval, e1, e2, e3, e4, e5, hl, e6, ← h4]
          rw [e7]
          simp (config := { maxSteps := 10000000 }) only [go_sem, seval, e1]
          exact ⟨⟨k + 1, by omega⟩, by simp; omega, Wk.wk (by simp [lo]) (by simp [Am.get, wv]) (by simp [AV.bel, Sc.bel, lid]) (subH_refl _) hH⟩
        · obtain rfl : k = 4 := by omega
          have e2 : ((0 : Int) ≤ 3 - 4) = False := by simp
          simp (config := { maxSteps := 10000000 }) only [go_sem, seval, e2]
          exact subH_refl _
    · simp at h
  · simp at h

end
end Go.Proofs.Ytflcjnekmjdckaa
