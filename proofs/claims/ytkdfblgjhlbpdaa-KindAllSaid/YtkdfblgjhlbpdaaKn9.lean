/- Layer 4: the law that all ops are told. -/
import Derived.Test.YtkdfblgjhlbpdaaKn8
namespace Go.Proofs.Ytkdfblgjhlbpdaa
open Go.RowKit
open Go.Am
set_option linter.unusedSimpArgs false
set_option linter.unusedVariables false
noncomputable section

/-- what the law holds while ops are told: how many are wanted, all names, how many came, whether all is fine -/
def kaH (m n : Int) (q : Bool) : AH := [.own [.i m], .vec 1 nmL, .own [.sl 1 0 99 99], .own [.i n], .own [.b q]]
open Classical in
def s_kall1 (args : List AV) (H : AH) : Option (AV × AH) :=
  if h : ∃ (m : Int) (k : Nat), k < 98 ∧ H = kaH m k true ∧ args = [.c (.i ((k : Int) + 1)), .c (.s (nm (k + 1))), .c (.p 3 0 0), .c (.p 4 0 0), .c (.p 2 0 0), .c (.p 0 0 0)] then
    some (.c (.b (!decide ((h.choose_spec.choose : Int) + 1 = h.choose))), kaH h.choose ((h.choose_spec.choose : Int) + 1) true)
  else none
theorem kaH_inj {m m' n n' : Int} {q q' : Bool} (h : kaH m n q = kaH m' n' q') : m = m' ∧ n = n' := by
  simp only [kaH, List.cons.injEq, AObj.own.injEq, Sc.i.injEq, Sc.b.injEq, and_true, true_and] at h
  exact ⟨h.1, h.2.1⟩
theorem s_kall1_eq {m : Int} {k : Nat} (hk : k < 98) : s_kall1 [.c (.i ((k : Int) + 1)), .c (.s (nm (k + 1))), .c (.p 3 0 0), .c (.p 4 0 0), .c (.p 2 0 0), .c (.p 0 0 0)] (kaH m k true) = some (.c (.b (!decide ((k : Int) + 1 = m))), kaH m ((k : Int) + 1) true) := by
  have h : ∃ (m' : Int) (k' : Nat), k' < 98 ∧ kaH m k true = kaH m' k' true ∧ ([.c (.i ((k : Int) + 1)), .c (.s (nm (k + 1))), .c (.p 3 0 0), .c (.p 4 0 0), .c (.p 2 0 0), .c (.p 0 0 0)] : List AV) = [.c (.i ((k' : Int) + 1)), .c (.s (nm (k' + 1))), .c (.p 3 0 0), .c (.p 4 0 0), .c (.p 2 0 0), .c (.p 0 0 0)] := ⟨m, k, hk, rfl, rfl⟩
  unfold s_kall1
  rw [dif_pos h]
  obtain ⟨e1, e2⟩ := kaH_inj h.choose_spec.choose_spec.2.1
  rw [← e2, ← e1]
theorem s_kall1_inv {args : List AV} {H H1 : AH} {v : AV} (h : s_kall1 args H = some (v, H1)) : ∃ (m : Int) (k : Nat), k < 98 ∧ H = kaH m k true ∧ args = [.c (.i ((k : Int) + 1)), .c (.s (nm (k + 1))), .c (.p 3 0 0), .c (.p 4 0 0), .c (.p 2 0 0), .c (.p 0 0 0)] ∧
    v = .c (.b (!decide ((k : Int) + 1 = m))) ∧ H1 = kaH m ((k : Int) + 1) true := by
  unfold s_kall1 at h
  split at h
  · rename_i hc
    have hs := hc.choose_spec.choose_spec
    simp only [Option.some.injEq, Prod.mk.injEq] at h
    exact ⟨_, _, hs.1, hs.2.1, hs.2.2, h.1.symm, h.2.symm⟩
  · simp at h
theorem len_kall1 (args : List AV) (H : AH) (v : AV) (H1 : AH) (h : s_kall1 args H = some (v, H1)) : H.length ≤ H1.length := by
  obtain ⟨m, k, _, rfl, _, _, rfl⟩ := s_kall1_inv h
  exact Nat.le_refl _
theorem find_nm {k : Nat} (hk : k < 98) : findI (nm (k + 1)) = k + 1 ∧ hasI (nm (k + 1)) = true := by
  have hf := find_hit hk rfl (fun j hj e => absurd (nm_inj (by omega) (by omega) e) (by omega))
  exact ⟨by unfold findI; rw [hf], by unfold hasI; rw [hf]; rfl⟩
theorem fin_k {n : Nat} {v : AV} {H : AH} : ∃ v', some v = some v' ∧ Wk n [(0, v')] H ([(0, v)], H) :=
  ⟨_, rfl, fun ρ _ _ h1 h2 => ⟨ρ, h1, h2, fun i _ hi hL _ => ⟨i, hi, hL⟩, fun _ _ => rfl⟩⟩
set_option maxRecDepth 100000 in
set_option maxHeartbeats 2000000 in
theorem ok_kall1 : FpOk Try.prog 11 s_kall1 := by
  refine fp_ok (s := s_kall1) (tab := [(8, .pu s_kfind)]) hmix (TabOk.cons (e := .pu s_kfind) ok_kfind TabOk.nil) Try.func11 rfl Try.results11 Try.ntmps11 (by kernel_rfl) (by kernel_rfl) len_kall1 ?_
  intro args H v H1 h hargs hH
  obtain ⟨m, k, hk, rfl, rfl, rfl, rfl⟩ := s_kall1_inv h
  refine ⟨by simp only [List.length_cons, List.length_nil]; decide, ?_⟩
  have e1 : w64 ((k : Int) + 1) = (k : Int) + 1 := w64_of (by omega)
  have e2 : (k : Int) + 1 < 99 := by omega
  have g := nmL_get (k := k + 1) (by omega)
  obtain ⟨f1, f2⟩ := find_nm hk
  have e3 : ((k : Int) + 1).toNat = k + 1 := by omega
  have e4 : ((k + 1 : Nat) : Int) = (k : Int) + 1 := by omega
  (try simp (config := { maxSteps := 10000000 }) only [go_sem, List.reduceReplicate, BitVec.reduceOfInt, BitVec.reduceToNat, BitVec.reduceToInt, BitVec.reduceEq, BitVec.reduceLT, BitVec.reduceLE, BitVec.reduceAdd, BitVec.reduceSub, BitVec.reduceMul, BitVec.reduceUDiv, BitVec.reduceUMod, BitVec.reduceAnd, BitVec.reduceOr, BitVec.reduceXOr, BitVec.reduceNot, BitVec.reduceNeg, BitVec.reduceHShiftLeft, BitVec.reduceHShiftRight, Nat.reduceAdd, Nat.reduceMul, Nat.reduceSub, Nat.reduceBEq, Nat.reduceEqDiff, Nat.reduceLeDiff, Nat.reduceLT, Int.reduceLE, Int.reduceLT, Int.reduceAdd, Int.reduceSub, Int.reduceMul, Int.reduceNeg, Int.reduceToNat, Int.reduceEq, ↓reduceIte, reduceCtorEq, s_kfind_eq, kaH, e1, e2, e3, e4, g, f1, f2, nmL_len]; repeat (simp (disch := omega) only [w64_d, ipos, ineg, dpos, dneg]; try simp (config := { maxSteps := 10000000 }) only [go_sem, List.reduceReplicate, BitVec.reduceOfInt, BitVec.reduceToNat, BitVec.reduceToInt, BitVec.reduceEq, BitVec.reduceLT, BitVec.reduceLE, BitVec.reduceAdd, BitVec.reduceSub, BitVec.reduceMul, BitVec.reduceUDiv, BitVec.reduceUMod, BitVec.reduceAnd, BitVec.reduceOr, BitVec.reduceXOr, BitVec.reduceNot, BitVec.reduceNeg, BitVec.reduceHShiftLeft, BitVec.reduceHShiftRight, Nat.reduceAdd, Nat.reduceMul, Nat.reduceSub, Nat.reduceBEq, Nat.reduceEqDiff, Nat.reduceLeDiff, Nat.reduceLT, Int.reduceLE, Int.reduceLT, Int.reduceAdd, Int.reduceSub, Int.reduceMul, Int.reduceNeg, Int.reduceToNat, Int.reduceEq, ↓reduceIte, reduceCtorEq, s_kfind_eq, kaH, e1, e2, e3, e4, g, f1, f2, nmL_len]))
  exact fin_k

end
end Go.Proofs.Ytkdfblgjhlbpdaa
