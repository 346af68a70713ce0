/- Layer 3: the reference decodes: contracts; the law InsnDecodes. -/
import Derived.Test.YtcfnfdafcfpohaaJ7
namespace Go.Proofs.Ytcfnfdafcfpohaa
open Go.Am
set_option linter.unusedSimpArgs false
set_option linter.unusedVariables false
noncomputable section

theorem msk_32 (b m : BitVec 32) : mskN (b.setWidth 64 &&& m.setWidth 64) 32 = (b &&& m).setWidth 64 := by
  unfold mskN
  apply BitVec.eq_of_getLsbD_eq
  intro i hi
  simp only [BitVec.getLsbD_setWidth, BitVec.getLsbD_and]
  by_cases h : i < 32
  · simp [h, hi]
  · have e : b.getLsbD i = false := BitVec.getLsbD_of_ge _ _ (by omega)
    simp [h, e]
theorem sw_inj {a b : BitVec 32} : (a.setWidth 64 = b.setWidth 64) = (a = b) := by
  apply propext
  constructor
  · intro h
    apply BitVec.eq_of_getLsbD_eq
    intro i hi
    have := congrArg (fun x => BitVec.getLsbD x i) h
    simp only [BitVec.getLsbD_setWidth] at this
    simpa [show i < 64 by omega] using this
  · intro h; rw [h]
theorem row_bits {k : Nat} (h : k < 98) : BitVec.ofNat 64 (tM (k + 1)) = (mB ((k + 1 : Nat) : Int)).setWidth 64 ∧ BitVec.ofNat 64 (tV (k + 1)) = (vB ((k + 1 : Nat) : Int)).setWidth 64 := by
  obtain ⟨t1, t2, t3, t4⟩ := tab_eq (k + 1) (by omega)
  have key : ∀ x : Nat, x < 4294967296 → BitVec.ofNat 64 x = (BitVec.ofInt 32 (x : Int)).setWidth 64 := fun x hx => by
    rw [BitVec.ofInt_natCast]
    apply BitVec.eq_of_toNat_eq
    rw [BitVec.toNat_setWidth, BitVec.toNat_ofNat, BitVec.toNat_ofNat]
    omega
  unfold mB vB
  rw [t1, t2]
  exact ⟨key _ t3, key _ t4⟩
theorem row_hit (b : BitVec 32) {k : Nat} (h : k < 98) : (mskN (b.setWidth 64 &&& BitVec.ofNat 64 (tM (k + 1))) 32 = BitVec.ofNat 64 (tV (k + 1))) = (hitB (b.toNat : Int) ((k + 1 : Nat) : Int) = true) := by
  obtain ⟨r1, r2⟩ := row_bits h
  obtain ⟨m1, m2⟩ := mv_eq (op := ((k + 1 : Nat) : Int)) (by omega)
  rw [r1, r2, msk_32, sw_inj, hitB_iff m1 m2]
def fndN (op : Int) : Nat := if op = 0 then 98 else op.toNat - 1
theorem fnd_no {b : BitVec 32} {k : Nat} (h : k < fndN (findT (b.toNat : Int))) (hk : k < 98) : hitB (b.toNat : Int) ((k + 1 : Nat) : Int) = false := by
  cases hh : hitB (b.toNat : Int) ((k + 1 : Nat) : Int)
  · rfl
  · exfalso
    have e := hit_find (by omega) hh
    rw [e] at h
    unfold fndN at h
    rw [if_neg (by omega)] at h
    omega
theorem bit_q (b : BitVec 32) (a : Nat) (h : a < 32) : decide (bitU (b.setWidth 64) (a : Int) = 1#64) = b.getLsbD a := by
  rw [bitU_n, BitVec.getLsbD_setWidth]
  have : decide (a < 64) = true := decide_eq_true (by omega)
  rw [this]
  cases b.getLsbD a <;> decide
theorem bit_26 (b : BitVec 32) : decide (bitU (b.setWidth 64) 26 = 1#64) = b.getLsbD 26 := bit_q b 26 (by decide)
theorem bit_25 (b : BitVec 32) : decide (bitU (b.setWidth 64) 25 = 1#64) = b.getLsbD 25 := bit_q b 25 (by decide)
/-- the cells of a decoded word, by what fields its format has -/
def decR (op : Int) (f : Nat) (b : BitVec 32) : List Sc :=
  [.i op, .i (if hasT f 100 = true then (cutU (b.setWidth 64) 7 5).toInt else 0), .i (if hasT f 49 = true then (cutU (b.setWidth 64) 15 5).toInt else 0), .i (if hasT f 50 = true then (cutU (b.setWidth 64) 20 5).toInt else 0),
    .i (immT f (b.setWidth 64)), .i (if hasT f 99 = true then (cutU (b.setWidth 64) 20 12).toInt else 0), .b (hasT f 113 && b.getLsbD 26), .b (hasT f 113 && b.getLsbD 25)]
theorem has_tab : ∀ f : Nat, f < 15 → (hasT f 100 = (decide (f ≠ 0) && decide (f ≠ 3) && decide (f ≠ 4) && decide (f ≠ 13) && decide (f ≠ 14))) ∧ (hasT f 49 = (decide (f ≠ 0) && decide (f ≠ 5) && decide (f ≠ 6) && decide (f ≠ 13))) ∧
    (hasT f 50 = (decide (f = 1) || decide (f = 3) || decide (f = 4) || decide (f = 11) || decide (f = 14))) ∧ (hasT f 99 = (decide (f = 9) || decide (f = 10))) ∧ (hasT f 113 = (decide (f = 11) || decide (f = 12))) ∧ (hasT f 105 = (decide (2 ≤ f) && decide (f ≤ 8))) := by decide
theorem decR_eq {op : Int} {f : Nat} (b : BitVec 32) (hf : f < 15) (h0 : f ≠ 0) (ho : op ≠ 0) (hz : f = 12 → (cutU (b.setWidth 64) 20 5).toInt = 0) : decR op f b = decC op f (b.setWidth 64) := by
  have cases : f = 1 ∨ f = 2 ∨ f = 3 ∨ f = 4 ∨ f = 5 ∨ f = 6 ∨ f = 7 ∨ f = 8 ∨ f = 9 ∨ f = 10 ∨ f = 11 ∨ f = 12 ∨ f = 13 ∨ f = 14 := by omega
  obtain ⟨a1, a2, a3, a4, a5, _⟩ := has_tab f hf
  unfold decR decC
  rw [a1, a2, a3, a4, a5, if_neg ho]
  rcases cases with rfl | rfl | rfl | rfl | rfl | rfl | rfl | rfl | rfl | rfl | rfl | rfl | rfl | rfl
  all_goals simp [inC, fldA26, fldA25]
  · exact (hz rfl).symm
set_option maxHeartbeats 16000000 in
def s_rdecode (args : List AV) : Option AV :=
  match args with
  | [.c (.u w)] => if w.toNat < 4294967296 then some (.t [.g (decT (w.toNat : Int)), .c (.b (!decide (findT (w.toNat : Int) = 0)))]) else none
  | _ => none
theorem s_rdecode_eq {w} : s_rdecode [.c (.u w)] = if w.toNat < 4294967296 then some (.t [.g (decT (w.toNat : Int)), .c (.b (!decide (findT (w.toNat : Int) = 0)))]) else none := rfl
set_option maxRecDepth 100000 in
set_option maxHeartbeats 2000000 in
theorem ok_rdecode : PuOk Try.prog 9 s_rdecode := by
  refine pu_ok (tab := [(26, .fp s_rrows), (27, .pu s_rmasked), (17, .pu s_rimm), (28, .pu s_rhas), (29, .pu s_rcut), (30, .pu s_bit)]) hmix (TabOk.cons (e := .fp s_rrows) ok_rrows (TabOk.cons (e := .pu s_rmasked) ok_rmasked (TabOk.cons (e := .pu s_rimm) ok_rimm (TabOk.cons (e := .pu s_rhas) ok_rhas (TabOk.cons (e := .pu s_rcut) ok_rcut (TabOk.cons (e := .pu s_bit) ok_bit TabOk.nil)))))) Try.func9 rfl Try.results9 Try.ntmps9 (by kernel_rfl) (by kernel_rfl) ?_
  intro args v h
  unfold s_rdecode at h
  split at h
  · rename_i w
    split at h
    · rename_i hc
      simp only [Option.some.injEq] at h; subst h
      have pc := decT_pf (w.toNat : Int)
      refine ⟨by simp only [List.length_cons, List.length_nil]; decide, by first | rfl | simp only [List.all_cons, List.all_nil, AV.pf, Sc.pf, Bool.and_true, *], by first | rfl | simp only [List.all_cons, List.all_nil, AV.pf, Sc.pf, Bool.and_true, *], ?_⟩
      obtain ⟨b, rfl⟩ : ∃ b : BitVec 32, w = b.setWidth 64 := ⟨w.setWidth 32, by apply BitVec.eq_of_toNat_eq; rw [BitVec.toNat_setWidth, BitVec.toNat_setWidth]; omega⟩
      have tn : ((b.setWidth 64).toNat : Int) = (b.toNat : Int) := by rw [BitVec.toNat_setWidth]; have := b.isLt; omega
      rw [tn] at pc ⊢
      (try simp (config := { maxSteps := 10000000 }) only [go_sem, List.reduceReplicate, BitVec.reduceOfInt, BitVec.reduceToNat, BitVec.reduceToInt, BitVec.reduceEq, BitVec.reduceLT, BitVec.reduceLE, BitVec.reduceAdd, BitVec.reduceSub, BitVec.reduceMul, BitVec.reduceUDiv, BitVec.reduceUMod, BitVec.reduceAnd, BitVec.reduceOr, BitVec.reduceXOr, BitVec.reduceNot, BitVec.reduceNeg, BitVec.reduceHShiftLeft, BitVec.reduceHShiftRight, Nat.reduceAdd, Nat.reduceMul, Nat.reduceSub, Nat.reduceBEq, Nat.reduceEqDiff, Nat.reduceLeDiff, Nat.reduceLT, Int.reduceLE, Int.reduceLT, Int.reduceAdd, Int.reduceSub, Int.reduceMul, Int.reduceNeg, Int.reduceToNat, Int.reduceEq, ↓reduceIte, reduceCtorEq, s_rrows_eq, s_rmasked_eq, s_rimm_eq, s_rhas_eq, s_rcut_eq, s_bit_eq]; repeat (simp (disch := omega) only [w64_d, ipos, ineg, dpos, dneg]; try simp (config := { maxSteps := 10000000 }) only [go_sem, List.reduceReplicate, BitVec.reduceOfInt, BitVec.reduceToNat, BitVec.reduceToInt, BitVec.reduceEq, BitVec.reduceLT, BitVec.reduceLE, BitVec.reduceAdd, BitVec.reduceSub, BitVec.reduceMul, BitVec.reduceUDiv, BitVec.reduceUMod, BitVec.reduceAnd, BitVec.reduceOr, BitVec.reduceXOr, BitVec.reduceNot, BitVec.reduceNeg, BitVec.reduceHShiftLeft, BitVec.reduceHShiftRight, Nat.reduceAdd, Nat.reduceMul, Nat.reduceSub, Nat.reduceBEq, Nat.reduceEqDiff, Nat.reduceLeDiff, Nat.reduceLT, Int.reduceLE, Int.reduceLT, Int.reduceAdd, Int.reduceSub, Int.reduceMul, Int.reduceNeg, Int.reduceToNat, Int.reduceEq, ↓reduceIte, reduceCtorEq, s_rrows_eq, s_rmasked_eq, s_rimm_eq, s_rhas_eq, s_rcut_eq, s_bit_eq]))
      have hn : fndN (findT (b.toNat : Int)) ≤ 98 := by
        unfold fndN
        split
        · omega
        · have := find_hit ‹_›; omega
      refine arun_for (fndN (findT (b.toNat : Int))) (fun k => ([(0, .c (.u (b.setWidth 64))), (2, .c (.p 0 0 0)), (3, .c (.b false)), (4, .c (.sl 1 0 392 98)), (5, .c (.i k))], [.own [.i 0, .i 0, .i 0, .i 0, .i 0, .i 0, .b false, .b false], .vec 4 rowsC])) (Wk.fr (by simp [Am.get])) fun k hk => ?_
      have e1 : w64 ((k : Int) + 1) = ((k + 1 : Nat) : Int) := by rw [w64_of (by omega)]; omega
      have k0 : (0 : Int) ≤ (k : Int) := by omega
      by_cases hlt : k < 98
      rotate_left
      · obtain rfl : k = 98 := by omega
        have fz : findT (b.toNat : Int) = 0 := by
          rcases Classical.em (findT (b.toNat : Int) = 0) with h | h
          · exact h
          · exfalso
            have := find_hit h
            unfold fndN at hk; rw [if_neg h] at hk; omega
        have dn := dec_no fz
        rw [dn, fz]
        (try simp (config := { maxSteps := 10000000 }) only [go_sem, List.reduceReplicate, BitVec.reduceOfInt, BitVec.reduceToNat, BitVec.reduceToInt, BitVec.reduceEq, BitVec.reduceLT, BitVec.reduceLE, BitVec.reduceAdd, BitVec.reduceSub, BitVec.reduceMul, BitVec.reduceUDiv, BitVec.reduceUMod, BitVec.reduceAnd, BitVec.reduceOr, BitVec.reduceXOr, BitVec.reduceNot, BitVec.reduceNeg, BitVec.reduceHShiftLeft, BitVec.reduceHShiftRight, Nat.reduceAdd, Nat.reduceMul, Nat.reduceSub, Nat.reduceBEq, Nat.reduceEqDiff, Nat.reduceLeDiff, Nat.reduceLT, Int.reduceLE, Int.reduceLT, Int.reduceAdd, Int.reduceSub, Int.reduceMul, Int.reduceNeg, Int.reduceToNat, Int.reduceEq, ↓reduceIte, reduceCtorEq, inC]; repeat (simp (disch := omega) only [w64_d, ipos, ineg, dpos, dneg]; try simp (config := { maxSteps := 10000000 }) only [go_sem, List.reduceReplicate, BitVec.reduceOfInt, BitVec.reduceToNat, BitVec.reduceToInt, BitVec.reduceEq, BitVec.reduceLT, BitVec.reduceLE, BitVec.reduceAdd, BitVec.reduceSub, BitVec.reduceMul, BitVec.reduceUDiv, BitVec.reduceUMod, BitVec.reduceAnd, BitVec.reduceOr, BitVec.reduceXOr, BitVec.reduceNot, BitVec.reduceNeg, BitVec.reduceHShiftLeft, BitVec.reduceHShiftRight, Nat.reduceAdd, Nat.reduceMul, Nat.reduceSub, Nat.reduceBEq, Nat.reduceEqDiff, Nat.reduceLeDiff, Nat.reduceLT, Int.reduceLE, Int.reduceLT, Int.reduceAdd, Int.reduceSub, Int.reduceMul, Int.reduceNeg, Int.reduceToNat, Int.reduceEq, ↓reduceIte, reduceCtorEq, inC]))
      have hI : (k : Int) < 98 := by omega
      have g1 := fm_le row_l (L := List.range 98) (k := k) (by simpa using hlt)
      have g2 := fm_cell row_l (row_at hlt) (i := 0) (by decide)
      have g3 := fm_cell row_l (row_at hlt) (i := 1) (by decide)
      have g4 := fm_cell row_l (row_at hlt) (i := 2) (by decide)
      have g5 := fm_cell row_l (row_at hlt) (i := 3) (by decide)
      have ec : (List.range 98).flatMap (fun i => rowOp (i + 1)) = rowsC := rfl
      rw [ec] at g1 g2 g3 g4 g5
      rw [rows_len] at g1
      rw [Nat.add_zero] at g2
      have g2' : rowsC.getD (k * 4) .any = .i ((k + 1 : Nat) : Int) := g2
      have g3' : rowsC.getD (k * 4 + 1) .any = .s (fn (fmtT ((k + 1 : Nat) : Int)).toNat) := g3
      have g4' : rowsC.getD (k * 4 + 2) .any = .u (BitVec.ofNat 64 (tM (k + 1))) := g4
      have g5' : rowsC.getD (k * 4 + 3) .any = .u (BitVec.ofNat 64 (tV (k + 1))) := g5
      have l1 : k * 4 + 1 ≤ 392 := by omega
      have l2 : k * 4 + 1 + 1 ≤ 392 := by omega
      have l3 : k * 4 + 2 + 1 ≤ 392 := by omega
      have l4 : k * 4 + 3 + 1 ≤ 392 := by omega
      have rh := row_hit b hlt
      by_cases hkn : k < fndN (findT (b.toNat : Int))
      · have no := fnd_no hkn hlt
        rw [no] at rh
        simp only [Bool.false_eq_true] at rh
        (try simp (config := { maxSteps := 10000000 }) only [go_sem, List.reduceReplicate, BitVec.reduceOfInt, BitVec.reduceToNat, BitVec.reduceToInt, BitVec.reduceEq, BitVec.reduceLT, BitVec.reduceLE, BitVec.reduceAdd, BitVec.reduceSub, BitVec.reduceMul, BitVec.reduceUDiv, BitVec.reduceUMod, BitVec.reduceAnd, BitVec.reduceOr, BitVec.reduceXOr, BitVec.reduceNot, BitVec.reduceNeg, BitVec.reduceHShiftLeft, BitVec.reduceHShiftRight, Nat.reduceAdd, Nat.reduceMul, Nat.reduceSub, Nat.reduceBEq, Nat.reduceEqDiff, Nat.reduceLeDiff, Nat.reduceLT, Int.reduceLE, Int.reduceLT, Int.reduceAdd, Int.reduceSub, Int.reduceMul, Int.reduceNeg, Int.reduceToNat, Int.reduceEq, ↓reduceIte, reduceCtorEq, s_rmasked_eq, e1, k0, hI, g4', g5', l3, l4, rows_len, rh]; repeat (simp (disch := omega) only [w64_d, ipos, ineg, dpos, dneg]; try simp (config := { maxSteps := 10000000 }) only [go_sem, List.reduceReplicate, BitVec.reduceOfInt, BitVec.reduceToNat, BitVec.reduceToInt, BitVec.reduceEq, BitVec.reduceLT, BitVec.reduceLE, BitVec.reduceAdd, BitVec.reduceSub, BitVec.reduceMul, BitVec.reduceUDiv, BitVec.reduceUMod, BitVec.reduceAnd, BitVec.reduceOr, BitVec.reduceXOr, BitVec.reduceNot, BitVec.reduceNeg, BitVec.reduceHShiftLeft, BitVec.reduceHShiftRight, Nat.reduceAdd, Nat.reduceMul, Nat.reduceSub, Nat.reduceBEq, Nat.reduceEqDiff, Nat.reduceLeDiff, Nat.reduceLT, Int.reduceLE, Int.reduceLT, Int.reduceAdd, Int.reduceSub, Int.reduceMul, Int.reduceNeg, Int.reduceToNat, Int.reduceEq, ↓reduceIte, reduceCtorEq, s_rmasked_eq, e1, k0, hI, g4', g5', l3, l4, rows_len, rh]))
        exact ⟨k + 1, by omega, by omega, Wk.fr (by simp [Am.get])⟩
      · have fz : findT (b.toNat : Int) ≠ 0 := fun h => by unfold fndN at hk hkn; rw [if_pos h] at hk hkn; omega
        obtain ⟨z1, z2, z3⟩ := find_hit fz
        have fk : findT (b.toNat : Int) = ((k + 1 : Nat) : Int) := by unfold fndN at hk hkn; rw [if_neg fz] at hk hkn; omega
        rw [fk] at z3
        rw [z3] at rh
        obtain ⟨f, f1, f2⟩ := fmt_nat ((k + 1 : Nat) : Int)
        have f0 : f ≠ 0 := by have := (op_v (op := ((k + 1 : Nat) : Int)) (by omega)).2.1; omega
        have nf := nmF_fn f1
        have ri := rimm_eq f1 b
        have hz : f = 12 → (cutU (b.setWidth 64) 20 5).toInt = 0 := fun e => by
          obtain ⟨m1, m2⟩ := mv_eq (op := ((k + 1 : Nat) : Int)) (by omega)
          rw [hitB_iff m1 m2] at z3
          have v0 := (op_v (op := ((k + 1 : Nat) : Int)) (by omega)).2.2 (by omega)
          have mm : mB ((k + 1 : Nat) : Int) = 4193284223#32 := by
            show BitVec.ofInt 32 (maskT (fmtT ((k + 1 : Nat) : Int))) = _
            rw [f2, e]; rfl
          rw [← z3, mm] at v0
          rw [fld20, zL b v0]; rfl
        have de : decT (b.toNat : Int) = decR ((k + 1 : Nat) : Int) f b := by
          rw [decR_eq b f1 f0 (by omega) hz]
          unfold decT
          rw [fk, f2, W_b]
        have r : inR 7 ∧ inR 5 ∧ inR 15 ∧ inR 20 ∧ inR 12 := by
          repeat' apply And.intro
          all_goals exact inr_n (by decide) (by decide)
        obtain ⟨r1, r2, r3, r4, r5⟩ := r
        have tf : (fmtT ((k + 1 : Nat) : Int)).toNat = f := by omega
        rw [de]
        unfold decR
        have q26 := bit_26 b
        have q25 := bit_25 b
        have ne : ¬ (((k + 1 : Nat) : Int) = 0) := by omega
        obtain ⟨a1, a2, a3, a4, a5, _⟩ := has_tab f f1
        have cases : f = 1 ∨ f = 2 ∨ f = 3 ∨ f = 4 ∨ f = 5 ∨ f = 6 ∨ f = 7 ∨ f = 8 ∨ f = 9 ∨ f = 10 ∨ f = 11 ∨ f = 12 ∨ f = 13 ∨ f = 14 := by omega
        clear hz de z3
        rcases cases with rfl | rfl | rfl | rfl | rfl | rfl | rfl | rfl | rfl | rfl | rfl | rfl | rfl | rfl
        all_goals simp at a1 a2 a3 a4 a5
        all_goals (try simp (config := { maxSteps := 10000000 }) only [go_sem, List.reduceReplicate, BitVec.reduceOfInt, BitVec.reduceToNat, BitVec.reduceToInt, BitVec.reduceEq, BitVec.reduceLT, BitVec.reduceLE, BitVec.reduceAdd, BitVec.reduceSub, BitVec.reduceMul, BitVec.reduceUDiv, BitVec.reduceUMod, BitVec.reduceAnd, BitVec.reduceOr, BitVec.reduceXOr, BitVec.reduceNot, BitVec.reduceNeg, BitVec.reduceHShiftLeft, BitVec.reduceHShiftRight, Nat.reduceAdd, Nat.reduceMul, Nat.reduceSub, Nat.reduceBEq, Nat.reduceEqDiff, Nat.reduceLeDiff, Nat.reduceLT, Int.reduceLE, Int.reduceLT, Int.reduceAdd, Int.reduceSub, Int.reduceMul, Int.reduceNeg, Int.reduceToNat, Int.reduceEq, ↓reduceIte, reduceCtorEq, s_rrows_eq, s_rmasked_eq, s_rimm_eq, s_rhas_eq, s_rcut_eq, s_bit_eq, e1, k0, hI, g2', g3', g4', g5', l1, l2, l3, l4, rows_len, rh, fk, nf, ri, a1, a2, a3, a4, a5, r1, r2, r3, r4, r5, tf, q26, q25, ne]; repeat (simp (disch := omega) only [w64_d, ipos, ineg, dpos, dneg]; try simp (config := { maxSteps := 10000000 }) only [go_sem, List.reduceReplicate, BitVec.reduceOfInt, BitVec.reduceToNat, BitVec.reduceToInt, BitVec.reduceEq, BitVec.reduceLT, BitVec.reduceLE, BitVec.reduceAdd, BitVec.reduceSub, BitVec.reduceMul, BitVec.reduceUDiv, BitVec.reduceUMod, BitVec.reduceAnd, BitVec.reduceOr, BitVec.reduceXOr, BitVec.reduceNot, BitVec.reduceNeg, BitVec.reduceHShiftLeft, BitVec.reduceHShiftRight, Nat.reduceAdd, Nat.reduceMul, Nat.reduceSub, Nat.reduceBEq, Nat.reduceEqDiff, Nat.reduceLeDiff, Nat.reduceLT, Int.reduceLE, Int.reduceLT, Int.reduceAdd, Int.reduceSub, Int.reduceMul, Int.reduceNeg, Int.reduceToNat, Int.reduceEq, ↓reduceIte, reduceCtorEq, s_rrows_eq, s_rmasked_eq, s_rimm_eq, s_rhas_eq, s_rcut_eq, s_bit_eq, e1, k0, hI, g2', g3', g4', g5', l1, l2, l3, l4, rows_len, rh, fk, nf, ri, a1, a2, a3, a4, a5, r1, r2, r3, r4, r5, tf, q26, q25, ne]))
        all_goals exact fun h => h.1.elim
    · simp at h
  · simp at h
theorem decC_in (op f : Int) (W : BitVec 64) : ∃ op' rd r1 r2 im cs aq rl, decC op f W = inC op' rd r1 r2 im cs aq rl := by
  unfold decC
  repeat' split
  all_goals exact ⟨_, _, _, _, _, _, _, _, rfl⟩
theorem decT_in (w : Int) : ∃ op rd r1 r2 im cs aq rl, decT w = inC op rd r1 r2 im cs aq rl := decC_in _ _ _
def s_rdecodes (args : List AV) : Option AV :=
  match args with
  | [.c (.k .u32 w)] => if 0 ≤ w ∧ w ≤ 4294967295 then some (.c (.b true)) else none
  | _ => none
theorem s_rdecodes_eq {w} : s_rdecodes [.c (.k .u32 w)] = if 0 ≤ w ∧ w ≤ 4294967295 then some (.c (.b true)) else none := rfl
set_option maxRecDepth 100000 in
set_option maxHeartbeats 2000000 in
theorem ok_rdecodes : PuOk Try.prog 3 s_rdecodes := by
  refine pu_ok (tab := [(8, .pu s_idecode), (9, .pu s_rdecode), (10, .pu s_live3)]) hmix (TabOk.cons (e := .pu s_idecode) ok_idecode (TabOk.cons (e := .pu s_rdecode) ok_rdecode (TabOk.cons (e := .pu s_live3) ok_live3 TabOk.nil))) Try.func3 rfl Try.results3 Try.ntmps3 (by kernel_rfl) (by kernel_rfl) ?_
  intro args v h
  unfold s_rdecodes at h
  split at h
  · rename_i w
    split at h
    · rename_i hc
      simp only [Option.some.injEq] at h; subst h
      refine ⟨by simp only [List.length_cons, List.length_nil]; decide, rfl, rfl, ?_⟩
      obtain ⟨b, rfl⟩ := w_b hc
      have wb := W_b b
      have tn : ((b.setWidth 64).toNat : Int) = (b.toNat : Int) := by rw [BitVec.toNat_setWidth]; have := b.isLt; omega
      have tl : (b.setWidth 64).toNat < 4294967296 := by have := b.isLt; omega
      obtain ⟨op, rd, r1, r2, im, cs, aq, rl, e⟩ := decT_in (b.toNat : Int)
      (try simp (config := { maxSteps := 10000000 }) only [go_sem, List.reduceReplicate, BitVec.reduceOfInt, BitVec.reduceToNat, BitVec.reduceToInt, BitVec.reduceEq, BitVec.reduceLT, BitVec.reduceLE, BitVec.reduceAdd, BitVec.reduceSub, BitVec.reduceMul, BitVec.reduceUDiv, BitVec.reduceUMod, BitVec.reduceAnd, BitVec.reduceOr, BitVec.reduceXOr, BitVec.reduceNot, BitVec.reduceNeg, BitVec.reduceHShiftLeft, BitVec.reduceHShiftRight, Nat.reduceAdd, Nat.reduceMul, Nat.reduceSub, Nat.reduceBEq, Nat.reduceEqDiff, Nat.reduceLeDiff, Nat.reduceLT, Int.reduceLE, Int.reduceLT, Int.reduceAdd, Int.reduceSub, Int.reduceMul, Int.reduceNeg, Int.reduceToNat, Int.reduceEq, ↓reduceIte, reduceCtorEq, s_idecode_eq, s_rdecode_eq, s_live3_eq, wb, tn, tl, e, inC]; repeat (simp (disch := omega) only [w64_d, ipos, ineg, dpos, dneg]; try simp (config := { maxSteps := 10000000 }) only [go_sem, List.reduceReplicate, BitVec.reduceOfInt, BitVec.reduceToNat, BitVec.reduceToInt, BitVec.reduceEq, BitVec.reduceLT, BitVec.reduceLE, BitVec.reduceAdd, BitVec.reduceSub, BitVec.reduceMul, BitVec.reduceUDiv, BitVec.reduceUMod, BitVec.reduceAnd, BitVec.reduceOr, BitVec.reduceXOr, BitVec.reduceNot, BitVec.reduceNeg, BitVec.reduceHShiftLeft, BitVec.reduceHShiftRight, Nat.reduceAdd, Nat.reduceMul, Nat.reduceSub, Nat.reduceBEq, Nat.reduceEqDiff, Nat.reduceLeDiff, Nat.reduceLT, Int.reduceLE, Int.reduceLT, Int.reduceAdd, Int.reduceSub, Int.reduceMul, Int.reduceNeg, Int.reduceToNat, Int.reduceEq, ↓reduceIte, reduceCtorEq, s_idecode_eq, s_rdecode_eq, s_live3_eq, wb, tn, tl, e, inC]))
    · simp at h
  · simp at h
theorem sig_rdecodes (avs : List AV) (H : AH) (h : SigA [.fl false [.n .u32]] avs H) : (fun a (_ : AH) => s_rdecodes a) avs H = some (.c (.b true)) := by
  obtain ⟨s, r, rfl, k, h1⟩ := sig_c h
  obtain ⟨w, rfl, w1, w2⟩ := fk_32 k
  obtain rfl := sig_nil h1
  exact s_rdecodes_eq.trans (if_pos ⟨w1, w2⟩)
end
end Go.Proofs.Ytcfnfdafcfpohaa
