/- Layer 3: the law InsnImms. -/
import Derived.Test.YtcfnfdafcfpohaaJ6
namespace Go.Proofs.Ytcfnfdafcfpohaa
open Go.Am
set_option linter.unusedSimpArgs false
set_option linter.unusedVariables false
noncomputable section

theorem num_fn {f : Nat} (hf : f < 15) : numT (fn f) = (f : Int) := by
  unfold numT; rw [nmF_fn hf, if_pos hf]
theorem fmt_nat (op : Int) : ∃ f : Nat, f < 15 ∧ fmtT op = (f : Int) := ⟨(fmtT op).toNat, by have := fmt_rg op; unfold rg at this; omega, by have := fmt_rg op; unfold rg at this; omega⟩
/-- a row, and what the program has for it -/
theorem rowT_eq (op : Int) : ∃ f : Nat, f < 15 ∧ fmtT op = (f : Int) ∧ ∃ p : Int, rowT op = [.i p, .s (fn f), .u (BitVec.ofInt 64 (fixM op)), .u (BitVec.ofInt 64 (fixV op))] ∧ (f ≠ 0 → p = op ∧ 1 ≤ op ∧ op ≤ 98) := by
  by_cases h : 1 ≤ op ∧ op ≤ 98
  · obtain ⟨i, rfl⟩ : ∃ i : Nat, op = (i : Int) := ⟨op.toNat, by omega⟩
    obtain ⟨f, h1, h2⟩ := fmt_nat (i : Int)
    obtain ⟨t1, t2, t3, t4⟩ := tab_eq i (by omega)
    refine ⟨f, h1, h2, (i : Int), ?_, fun _ => ⟨rfl, h⟩⟩
    unfold rowT
    rw [if_pos h, t1, t2, BitVec.ofInt_natCast, BitVec.ofInt_natCast]
    show rowOp i = _
    unfold rowOp
    rw [h2]; rfl
  · have h' : op < 1 ∨ 98 < op := by omega
    obtain ⟨z1, z2⟩ := fix_out h'
    have f0 : fmtT op = 0 := by
      rcases Classical.em (fmtT op = 0) with k | k
      · exact k
      · exact absurd (fmt_in k) h
    refine ⟨0, by decide, f0, 0, ?_, fun h => absurd rfl h⟩
    unfold rowT
    rw [if_neg h, z1, z2]; rfl
theorem lay_64 (f : Int) (n : BitVec 64) : BitVec.ofInt 64 (layT f n) = (layE f n).setWidth 64 := by rw [layE_eq, W_b]
set_option maxHeartbeats 8000000 in
def s_rimms (args : List AV) : Option AV :=
  match args with
  | [.c (.i f), .c (.k .u32 w), .g [.i a, .i o]] => if 0 ≤ w ∧ w ≤ 4294967295 then some (.c (.b true)) else none
  | _ => none
theorem s_rimms_eq {f w a o} : s_rimms [.c (.i f), .c (.k .u32 w), .g [.i a, .i o]] = if 0 ≤ w ∧ w ≤ 4294967295 then some (.c (.b true)) else none := rfl
set_option maxRecDepth 100000 in
set_option maxHeartbeats 2000000 in
theorem ok_rimms : PuOk Try.prog 5 s_rimms := by
  refine pu_ok (tab := [(16, .pu s_iimm), (18, .pu s_ilay), (21, .pu s_ifixed), (22, .pu s_iformat), (15, .fp s_rnames), (17, .pu s_rimm), (19, .pu s_rlay), (20, .pu s_rfind), (23, .pu s_rnumber), (10, .pu s_live3)]) hmix (TabOk.cons (e := .pu s_iimm) ok_iimm (TabOk.cons (e := .pu s_ilay) ok_ilay (TabOk.cons (e := .pu s_ifixed) ok_ifixed (TabOk.cons (e := .pu s_iformat) ok_iformat (TabOk.cons (e := .fp s_rnames) ok_rnames (TabOk.cons (e := .pu s_rimm) ok_rimm (TabOk.cons (e := .pu s_rlay) ok_rlay (TabOk.cons (e := .pu s_rfind) ok_rfind (TabOk.cons (e := .pu s_rnumber) ok_rnumber (TabOk.cons (e := .pu s_live3) ok_live3 TabOk.nil)))))))))) Try.func5 rfl Try.results5 Try.ntmps5 (by kernel_rfl) (by kernel_rfl) ?_
  intro args v h
  unfold s_rimms at h
  split at h
  · rename_i f w a o
    split at h
    · rename_i hc
      simp only [Option.some.injEq] at h; subst h
      refine ⟨by simp only [List.length_cons, List.length_nil]; decide, rfl, rfl, ?_⟩
      obtain ⟨b, rfl⟩ := w_b hc
      have wb := W_b b
      obtain ⟨g, g1, g2, p, g3, _⟩ := rowT_eq o
      have n1 := num_fn g1
      have nf := nmF_fn g1
      have l64 := lay_64 f (BitVec.ofInt 64 a)
      by_cases hf : 0 ≤ f ∧ f < 15
      · obtain ⟨k, rfl⟩ := Int.eq_ofNat_of_zero_le hf.1
        have hk : k < 15 := by omega
        have fg := fnL_get hk
        have nk := nmF_fn hk
        have ri := rimm_eq hk b
        have rl := rlay_eq hk (BitVec.ofInt 64 a)
        have k0 : (0 : Int) ≤ (k : Int) := by omega
        have k1 : (k : Int) < 15 := by omega
        have kl : k + 1 ≤ 15 := by omega
        (try simp (config := { maxSteps := 10000000 }) only [go_sem, List.reduceReplicate, BitVec.reduceOfInt, BitVec.reduceToNat, BitVec.reduceToInt, BitVec.reduceEq, BitVec.reduceLT, BitVec.reduceLE, BitVec.reduceAdd, BitVec.reduceSub, BitVec.reduceMul, BitVec.reduceUDiv, BitVec.reduceUMod, BitVec.reduceAnd, BitVec.reduceOr, BitVec.reduceXOr, BitVec.reduceNot, BitVec.reduceNeg, BitVec.reduceHShiftLeft, BitVec.reduceHShiftRight, Nat.reduceAdd, Nat.reduceMul, Nat.reduceSub, Nat.reduceBEq, Nat.reduceEqDiff, Nat.reduceLeDiff, Nat.reduceLT, Int.reduceLE, Int.reduceLT, Int.reduceAdd, Int.reduceSub, Int.reduceMul, Int.reduceNeg, Int.reduceToNat, Int.reduceEq, ↓reduceIte, reduceCtorEq, s_iimm_eq, s_ilay_eq, s_ifixed_eq, s_iformat_eq, s_rnames_eq, s_rimm_eq, s_rlay_eq, s_rfind_eq, s_rnumber_eq, s_live3_eq, wb, g2, g3, n1, fg, fnL_len, nk, hk, ri, rl, l64, k0, k1, kl]; repeat (simp (disch := omega) only [w64_d, ipos, ineg, dpos, dneg]; try simp (config := { maxSteps := 10000000 }) only [go_sem, List.reduceReplicate, BitVec.reduceOfInt, BitVec.reduceToNat, BitVec.reduceToInt, BitVec.reduceEq, BitVec.reduceLT, BitVec.reduceLE, BitVec.reduceAdd, BitVec.reduceSub, BitVec.reduceMul, BitVec.reduceUDiv, BitVec.reduceUMod, BitVec.reduceAnd, BitVec.reduceOr, BitVec.reduceXOr, BitVec.reduceNot, BitVec.reduceNeg, BitVec.reduceHShiftLeft, BitVec.reduceHShiftRight, Nat.reduceAdd, Nat.reduceMul, Nat.reduceSub, Nat.reduceBEq, Nat.reduceEqDiff, Nat.reduceLeDiff, Nat.reduceLT, Int.reduceLE, Int.reduceLT, Int.reduceAdd, Int.reduceSub, Int.reduceMul, Int.reduceNeg, Int.reduceToNat, Int.reduceEq, ↓reduceIte, reduceCtorEq, s_iimm_eq, s_ilay_eq, s_ifixed_eq, s_iformat_eq, s_rnames_eq, s_rimm_eq, s_rlay_eq, s_rfind_eq, s_rnumber_eq, s_live3_eq, wb, g2, g3, n1, fg, fnL_len, nk, hk, ri, rl, l64, k0, k1, kl]))
      · have f0 : f < 0 ∨ 15 ≤ f := by omega
        have i0 := imm_out f0 (b.setWidth 64)
        have l0 := lay_out f0 (BitVec.ofInt 64 a)
        have ri := rimm_eq (f := 0) (by decide) b
        have rl := rlay_eq (f := 0) (by decide) (BitVec.ofInt 64 a)
        have i00 : immT ((0 : Nat) : Int) (b.setWidth 64) = 0 := by simp [immT]
        have nk := nmF_fn (f := 0) (by decide)
        have nz : nmF (⟨#[]⟩ : ByteArray) = 0 := nk
        have z15 : (0 < 15) = True := eq_true (by decide)
        have rl0 : rlayT 0 (BitVec.ofInt 64 a) = 0#64 := rfl
        rw [i00] at ri
        by_cases h0 : 0 ≤ f
        · have h1 : ¬ f < 15 := by omega
          (try simp (config := { maxSteps := 10000000 }) only [go_sem, List.reduceReplicate, BitVec.reduceOfInt, BitVec.reduceToNat, BitVec.reduceToInt, BitVec.reduceEq, BitVec.reduceLT, BitVec.reduceLE, BitVec.reduceAdd, BitVec.reduceSub, BitVec.reduceMul, BitVec.reduceUDiv, BitVec.reduceUMod, BitVec.reduceAnd, BitVec.reduceOr, BitVec.reduceXOr, BitVec.reduceNot, BitVec.reduceNeg, BitVec.reduceHShiftLeft, BitVec.reduceHShiftRight, Nat.reduceAdd, Nat.reduceMul, Nat.reduceSub, Nat.reduceBEq, Nat.reduceEqDiff, Nat.reduceLeDiff, Nat.reduceLT, Int.reduceLE, Int.reduceLT, Int.reduceAdd, Int.reduceSub, Int.reduceMul, Int.reduceNeg, Int.reduceToNat, Int.reduceEq, ↓reduceIte, reduceCtorEq, s_iimm_eq, s_ilay_eq, s_ifixed_eq, s_iformat_eq, s_rnames_eq, s_rimm_eq, s_rlay_eq, s_rfind_eq, s_rnumber_eq, s_live3_eq, wb, g2, g3, n1, nk, ri, rl0, i0, l0, h0, h1, nz, z15]; repeat (simp (disch := omega) only [w64_d, ipos, ineg, dpos, dneg]; try simp (config := { maxSteps := 10000000 }) only [go_sem, List.reduceReplicate, BitVec.reduceOfInt, BitVec.reduceToNat, BitVec.reduceToInt, BitVec.reduceEq, BitVec.reduceLT, BitVec.reduceLE, BitVec.reduceAdd, BitVec.reduceSub, BitVec.reduceMul, BitVec.reduceUDiv, BitVec.reduceUMod, BitVec.reduceAnd, BitVec.reduceOr, BitVec.reduceXOr, BitVec.reduceNot, BitVec.reduceNeg, BitVec.reduceHShiftLeft, BitVec.reduceHShiftRight, Nat.reduceAdd, Nat.reduceMul, Nat.reduceSub, Nat.reduceBEq, Nat.reduceEqDiff, Nat.reduceLeDiff, Nat.reduceLT, Int.reduceLE, Int.reduceLT, Int.reduceAdd, Int.reduceSub, Int.reduceMul, Int.reduceNeg, Int.reduceToNat, Int.reduceEq, ↓reduceIte, reduceCtorEq, s_iimm_eq, s_ilay_eq, s_ifixed_eq, s_iformat_eq, s_rnames_eq, s_rimm_eq, s_rlay_eq, s_rfind_eq, s_rnumber_eq, s_live3_eq, wb, g2, g3, n1, nk, ri, rl0, i0, l0, h0, h1, nz, z15]))
        · (try simp (config := { maxSteps := 10000000 }) only [go_sem, List.reduceReplicate, BitVec.reduceOfInt, BitVec.reduceToNat, BitVec.reduceToInt, BitVec.reduceEq, BitVec.reduceLT, BitVec.reduceLE, BitVec.reduceAdd, BitVec.reduceSub, BitVec.reduceMul, BitVec.reduceUDiv, BitVec.reduceUMod, BitVec.reduceAnd, BitVec.reduceOr, BitVec.reduceXOr, BitVec.reduceNot, BitVec.reduceNeg, BitVec.reduceHShiftLeft, BitVec.reduceHShiftRight, Nat.reduceAdd, Nat.reduceMul, Nat.reduceSub, Nat.reduceBEq, Nat.reduceEqDiff, Nat.reduceLeDiff, Nat.reduceLT, Int.reduceLE, Int.reduceLT, Int.reduceAdd, Int.reduceSub, Int.reduceMul, Int.reduceNeg, Int.reduceToNat, Int.reduceEq, ↓reduceIte, reduceCtorEq, s_iimm_eq, s_ilay_eq, s_ifixed_eq, s_iformat_eq, s_rnames_eq, s_rimm_eq, s_rlay_eq, s_rfind_eq, s_rnumber_eq, s_live3_eq, wb, g2, g3, n1, nk, ri, rl0, i0, l0, h0, nz, z15]; repeat (simp (disch := omega) only [w64_d, ipos, ineg, dpos, dneg]; try simp (config := { maxSteps := 10000000 }) only [go_sem, List.reduceReplicate, BitVec.reduceOfInt, BitVec.reduceToNat, BitVec.reduceToInt, BitVec.reduceEq, BitVec.reduceLT, BitVec.reduceLE, BitVec.reduceAdd, BitVec.reduceSub, BitVec.reduceMul, BitVec.reduceUDiv, BitVec.reduceUMod, BitVec.reduceAnd, BitVec.reduceOr, BitVec.reduceXOr, BitVec.reduceNot, BitVec.reduceNeg, BitVec.reduceHShiftLeft, BitVec.reduceHShiftRight, Nat.reduceAdd, Nat.reduceMul, Nat.reduceSub, Nat.reduceBEq, Nat.reduceEqDiff, Nat.reduceLeDiff, Nat.reduceLT, Int.reduceLE, Int.reduceLT, Int.reduceAdd, Int.reduceSub, Int.reduceMul, Int.reduceNeg, Int.reduceToNat, Int.reduceEq, ↓reduceIte, reduceCtorEq, s_iimm_eq, s_ilay_eq, s_ifixed_eq, s_iformat_eq, s_rnames_eq, s_rimm_eq, s_rlay_eq, s_rfind_eq, s_rnumber_eq, s_live3_eq, wb, g2, g3, n1, nk, ri, rl0, i0, l0, h0, nz, z15]))
    · simp at h
  · simp at h
theorem fk_32 {s : Sc} (h : FitK s (.n .u32)) : ∃ x, s = .k .u32 x ∧ 0 ≤ x ∧ x ≤ 4294967295 := by
  cases s with
  | k kd x =>
    simp only [FitK] at h
    obtain ⟨rfl, _, a, b⟩ := h
    exact ⟨x, rfl, a, b⟩
  | _ => simp [FitK] at h
theorem sig_rimms (avs : List AV) (H : AH) (h : SigA [.fl false [.n .i64], .fl false [.n .u32], .fl true [.n .i64, .n .i64]] avs H) : (fun a (_ : AH) => s_rimms a) avs H = some (.c (.b true)) := by
  obtain ⟨s, r, rfl, k, h1⟩ := sig_c h
  obtain ⟨f, rfl, _, _⟩ := fk_i k
  obtain ⟨s, r, rfl, k, h2⟩ := sig_c h1
  obtain ⟨w, rfl, w1, w2⟩ := fk_32 k
  obtain ⟨l, r1, rfl, g, h3⟩ := sig_g h2
  obtain ⟨x1, l1, rfl, k1, g1⟩ := fit_cons g
  obtain ⟨x2, l2, rfl, k2, g2⟩ := fit_cons g1
  obtain rfl := fit_nil g2
  obtain ⟨x1, rfl, _, _⟩ := fk_i k1
  obtain ⟨x2, rfl, _, _⟩ := fk_i k2
  obtain rfl := sig_nil h3
  exact s_rimms_eq.trans (if_pos ⟨w1, w2⟩)
end
end Go.Proofs.Ytcfnfdafcfpohaa
