/- Layer 3: what is decoded is encoded, what is encoded is decoded: plain laws; the law InsnBack. -/
import Derived.Test.YtcfnfdafcfpohaaI12
namespace Go.Proofs.Ytcfnfdafcfpohaa
open Go.Am
set_option linter.unusedSimpArgs false
set_option linter.unusedVariables false
noncomputable section

theorem all1 (b : BitVec 32) : b &&& 4294967295#32 = b := by apply all32 <;> simp
theorem de13 {op : Int} (ho : op ≠ 0) {b v : BitVec 32} (h : b &&& 4294967295#32 = v) : ∃ rd r1 r2 im cs aq rl, decC op 13 (b.setWidth 64) = inC op rd r1 r2 im cs aq rl ∧ checkT 13 rd r1 r2 im cs aq rl = 0 ∧ encV v 13 rd r1 r2 im cs aq rl = b := by
  rw [all1] at h
  subst h
  refine ⟨0, 0, 0, 0, 0, false, false, ?_, ?_, ?_⟩
  · unfold decC; rw [if_neg ho]; simp [immT]
  · rw [check_iff]; exact ⟨by decide, by simp [formB, fdT], by omega, by omega, by omega, by omega, rfl⟩
  · unfold encV; rw [lyE13]
    simp only [oz, BitVec.zero_or, BitVec.or_zero, BitVec.zero_shiftLeft, Bool.false_eq_true, if_false]
theorem en13 {op : Int} (ho : op ≠ 0) {v : BitVec 32} {rd r1 r2 im cs : Int} {aq rl : Bool} (h : checkT 13 rd r1 r2 im cs aq rl = 0) : encV v 13 rd r1 r2 im cs aq rl &&& 4294967295#32 = v ∧ decC op 13 ((encV v 13 rd r1 r2 im cs aq rl).setWidth 64) = inC op rd r1 r2 im cs aq rl := by
  rw [check_iff] at h
  obtain ⟨_, hform, hd, hs, ht, hc, hf⟩ := h
  simp [formB, fdT] at hform
  obtain ⟨z_rd, z_r1, z_r2, z_im, z_cs, z_aq, z_rl⟩ := hform
  subst z_rd
  subst z_r1
  subst z_r2
  subst z_im
  subst z_cs
  subst z_aq
  subst z_rl
  refine ⟨?_, ?_⟩
  · rw [all1]
    unfold encV; rw [lyE13]
    simp only [oz, BitVec.zero_or, BitVec.or_zero, BitVec.zero_shiftLeft, Bool.false_eq_true, if_false]
  · unfold decC; rw [if_neg ho]; simp [immT]
theorem tab_v : ∀ i : Nat, i < 98 → vB ((i + 1 : Nat) : Int) &&& mB ((i + 1 : Nat) : Int) = vB ((i + 1 : Nat) : Int) ∧ fmtT ((i + 1 : Nat) : Int) ≠ 0 ∧ (fmtT ((i + 1 : Nat) : Int) = 12 → vB ((i + 1 : Nat) : Int) &&& 32505856#32 = 0#32) := by decide +kernel
theorem op_v {op : Int} (h : 1 ≤ op ∧ op ≤ 98) : vB op &&& mB op = vB op ∧ fmtT op ≠ 0 ∧ (fmtT op = 12 → vB op &&& 32505856#32 = 0#32) := by
  obtain ⟨i, rfl⟩ : ∃ i : Nat, op = ((i + 1 : Nat) : Int) := ⟨(op - 1).toNat, by omega⟩
  exact tab_v i (by omega)
theorem enc_V {op rd r1 r2 im cs : Int} {aq rl : Bool} : encE op rd r1 r2 im cs aq rl = encV (vB op) (fmtT op) rd r1 r2 im cs aq rl := by
  unfold encE encV
  cases aq <;> cases rl <;> simp
theorem fmt_in {op : Int} (h : fmtT op ≠ 0) : 1 ≤ op ∧ op ≤ 98 := by
  rcases Classical.em (1 ≤ op ∧ op ≤ 98) with k | k
  · exact k
  · exfalso; apply h; unfold fmtT
    repeat rw [if_neg (by omega)]
theorem dec_f {op : Int} {b : BitVec 32} (ho : 1 ≤ op ∧ op ≤ 98) (h : b &&& mB op = vB op) : ∃ rd r1 r2 im cs aq rl, decC op (fmtT op) (b.setWidth 64) = inC op rd r1 r2 im cs aq rl ∧ checkT (fmtT op) rd r1 r2 im cs aq rl = 0 ∧ encV (vB op) (fmtT op) rd r1 r2 im cs aq rl = b := by
  have nz : op ≠ 0 := by omega
  obtain ⟨_, fz, lz⟩ := op_v ho
  have m : mB op = BitVec.ofInt 32 (maskT (fmtT op)) := rfl
  rw [m] at h
  generalize vB op = v at *
  rcases f_cases (fmt_rg op) with e | e | e | e | e | e | e | e | e | e | e | e | e | e | e
  · exact absurd e fz
  · rw [e] at h ⊢; exact de1 nz h
  · rw [e] at h ⊢; exact de2 nz h
  · rw [e] at h ⊢; exact de3 nz h
  · rw [e] at h ⊢; exact de4 nz h
  · rw [e] at h ⊢; exact de5 nz h
  · rw [e] at h ⊢; exact de6 nz h
  · rw [e] at h ⊢; exact de7 nz h
  · rw [e] at h ⊢; exact de8 nz h
  · rw [e] at h ⊢; exact de9 nz h
  · rw [e] at h ⊢; exact de10 nz h
  · rw [e] at h ⊢; exact de11 nz h
  · rw [e] at h ⊢; exact de12 nz h (lz e)
  · rw [e] at h ⊢; exact de13 nz h
  · rw [e] at h ⊢; exact de14 nz h
theorem enc_f {op : Int} {rd r1 r2 im cs : Int} {aq rl : Bool} (h : checkT (fmtT op) rd r1 r2 im cs aq rl = 0) : encV (vB op) (fmtT op) rd r1 r2 im cs aq rl &&& mB op = vB op ∧ decC op (fmtT op) ((encV (vB op) (fmtT op) rd r1 r2 im cs aq rl).setWidth 64) = inC op rd r1 r2 im cs aq rl := by
  have fz0 : fmtT op ≠ 0 := by rw [check_iff] at h; exact h.1
  have ho := fmt_in fz0
  have nz : op ≠ 0 := by omega
  obtain ⟨hv, _, lz⟩ := op_v ho
  have m : mB op = BitVec.ofInt 32 (maskT (fmtT op)) := rfl
  rw [m] at hv ⊢
  generalize vB op = v at *
  rcases f_cases (fmt_rg op) with e | e | e | e | e | e | e | e | e | e | e | e | e | e | e
  · exact absurd e fz0
  · rw [e] at h hv ⊢; exact en1 nz hv h
  · rw [e] at h hv ⊢; exact en2 nz hv h
  · rw [e] at h hv ⊢; exact en3 nz hv h
  · rw [e] at h hv ⊢; exact en4 nz hv h
  · rw [e] at h hv ⊢; exact en5 nz hv h
  · rw [e] at h hv ⊢; exact en6 nz hv h
  · rw [e] at h hv ⊢; exact en7 nz hv h
  · rw [e] at h hv ⊢; exact en8 nz hv h
  · rw [e] at h hv ⊢; exact en9 nz hv h
  · rw [e] at h hv ⊢; exact en10 nz hv h
  · rw [e] at h hv ⊢; exact en11 nz hv h
  · rw [e] at h hv ⊢; exact en12 nz hv (lz e) h
  · rw [e] at h hv ⊢; exact en13 nz h
  · rw [e] at h hv ⊢; exact en14 nz hv h
theorem w_b {w : Int} (h : 0 ≤ w ∧ w ≤ 4294967295) : ∃ b : BitVec 32, w = (b.toNat : Int) := ⟨BitVec.ofNat 32 w.toNat, by rw [BitVec.toNat_ofNat]; omega⟩
theorem back1 {w : Int} (hw : 0 ≤ w ∧ w ≤ 4294967295) (h : findT w ≠ 0) : ∃ rd r1 r2 im cs aq rl, decT w = inC (findT w) rd r1 r2 im cs aq rl ∧ checkT (fmtT (findT w)) rd r1 r2 im cs aq rl = 0 ∧ encT (findT w) rd r1 r2 im cs aq rl = w := by
  obtain ⟨b, rfl⟩ := w_b hw
  obtain ⟨a1, a2, hit⟩ := find_hit h
  obtain ⟨m1, m2⟩ := mv_eq (op := findT (b.toNat : Int)) (by omega)
  rw [hitB_iff m1 m2] at hit
  obtain ⟨rd, r1, r2, im, cs, aq, rl, k1, k2, k3⟩ := dec_f ⟨a1, a2⟩ hit
  refine ⟨rd, r1, r2, im, cs, aq, rl, ?_, k2, ?_⟩
  · unfold decT; rw [W_b]; exact k1
  · rw [enc_E (by omega) k2, enc_V, k3]
theorem back2 {op rd r1 r2 im cs : Int} {aq rl : Bool} (h : checkT (fmtT op) rd r1 r2 im cs aq rl = 0) : findT (encT op rd r1 r2 im cs aq rl) = op ∧ op ≠ 0 ∧ decT (encT op rd r1 r2 im cs aq rl) = inC op rd r1 r2 im cs aq rl := by
  have fz : fmtT op ≠ 0 := by rw [check_iff] at h; exact h.1
  have ho := fmt_in fz
  obtain ⟨k1, k2⟩ := enc_f h
  obtain ⟨m1, m2⟩ := mv_eq (op := op) (by omega)
  rw [enc_E (by omega) h, enc_V]
  have hit : hitB ((encV (vB op) (fmtT op) rd r1 r2 im cs aq rl).toNat : Int) op = true := by rw [hitB_iff m1 m2]; exact k1
  have ff := hit_find ho hit
  refine ⟨ff, by omega, ?_⟩
  unfold decT
  rw [ff, W_b]
  exact k2
theorem enc_no {op rd r1 r2 im cs : Int} {aq rl : Bool} (h : ¬ checkT (fmtT op) rd r1 r2 im cs aq rl = 0) : encT op rd r1 r2 im cs aq rl = 0 := if_neg h
theorem dec_no {w : Int} (h : findT w = 0) : decT w = inC 0 0 0 0 0 0 false false := by
  unfold decT; rw [h]; rfl
def s_iback (args : List AV) : Option AV :=
  match args with
  | [.c (.k .u32 w), .g [.i op, .i rd, .i r1, .i r2, .i im, .i cs, .b aq, .b rl]] => if 0 ≤ w ∧ w ≤ 4294967295 then some (.c (.b true)) else none
  | _ => none
theorem s_iback_eq {w op rd r1 r2 im cs aq rl} : s_iback [.c (.k .u32 w), .g [.i op, .i rd, .i r1, .i r2, .i im, .i cs, .b aq, .b rl]] = if 0 ≤ w ∧ w ≤ 4294967295 then some (.c (.b true)) else none := rfl
set_option maxRecDepth 100000 in
set_option maxHeartbeats 2000000 in
theorem ok_iback : PuOk Try.prog 6 s_iback := by
  refine pu_ok (tab := [(8, .pu s_idecode), (11, .pu s_iencode), (10, .pu s_live3)]) hmix (TabOk.cons (e := .pu s_idecode) ok_idecode (TabOk.cons (e := .pu s_iencode) ok_iencode (TabOk.cons (e := .pu s_live3) ok_live3 TabOk.nil))) Try.func6 rfl Try.results6 Try.ntmps6 (by kernel_rfl) (by kernel_rfl) ?_
  intro args v h
  unfold s_iback at h
  split at h
  · rename_i w op rd r1 r2 im cs aq rl
    split at h
    · rename_i hc
      simp only [Option.some.injEq] at h; subst h
      refine ⟨by simp only [List.length_cons, List.length_nil]; decide, rfl, rfl, ?_⟩
      by_cases h0 : findT w = 0
      · have dn := dec_no h0
        by_cases h1 : checkT (fmtT op) rd r1 r2 im cs aq rl = 0
        · obtain ⟨a1, a2, a3⟩ := back2 h1
          (try simp (config := { maxSteps := 10000000 }) only [go_sem, List.reduceReplicate, BitVec.reduceOfInt, BitVec.reduceToNat, BitVec.reduceToInt, BitVec.reduceEq, BitVec.reduceLT, BitVec.reduceLE, BitVec.reduceAdd, BitVec.reduceSub, BitVec.reduceMul, BitVec.reduceUDiv, BitVec.reduceUMod, BitVec.reduceAnd, BitVec.reduceOr, BitVec.reduceXOr, BitVec.reduceNot, BitVec.reduceNeg, BitVec.reduceHShiftLeft, BitVec.reduceHShiftRight, Nat.reduceAdd, Nat.reduceMul, Nat.reduceSub, Nat.reduceBEq, Nat.reduceEqDiff, Nat.reduceLeDiff, Nat.reduceLT, Int.reduceLE, Int.reduceLT, Int.reduceAdd, Int.reduceSub, Int.reduceMul, Int.reduceNeg, Int.reduceToNat, Int.reduceEq, ↓reduceIte, reduceCtorEq, s_idecode_eq, s_iencode_eq, s_live3_eq, h0, h1, a1, a2, a3, dn, inC]; repeat (simp (disch := omega) only [w64_d, ipos, ineg, dpos, dneg]; try simp (config := { maxSteps := 10000000 }) only [go_sem, List.reduceReplicate, BitVec.reduceOfInt, BitVec.reduceToNat, BitVec.reduceToInt, BitVec.reduceEq, BitVec.reduceLT, BitVec.reduceLE, BitVec.reduceAdd, BitVec.reduceSub, BitVec.reduceMul, BitVec.reduceUDiv, BitVec.reduceUMod, BitVec.reduceAnd, BitVec.reduceOr, BitVec.reduceXOr, BitVec.reduceNot, BitVec.reduceNeg, BitVec.reduceHShiftLeft, BitVec.reduceHShiftRight, Nat.reduceAdd, Nat.reduceMul, Nat.reduceSub, Nat.reduceBEq, Nat.reduceEqDiff, Nat.reduceLeDiff, Nat.reduceLT, Int.reduceLE, Int.reduceLT, Int.reduceAdd, Int.reduceSub, Int.reduceMul, Int.reduceNeg, Int.reduceToNat, Int.reduceEq, ↓reduceIte, reduceCtorEq, s_idecode_eq, s_iencode_eq, s_live3_eq, h0, h1, a1, a2, a3, dn, inC]))
        · have a1 := enc_no h1
          (try simp (config := { maxSteps := 10000000 }) only [go_sem, List.reduceReplicate, BitVec.reduceOfInt, BitVec.reduceToNat, BitVec.reduceToInt, BitVec.reduceEq, BitVec.reduceLT, BitVec.reduceLE, BitVec.reduceAdd, BitVec.reduceSub, BitVec.reduceMul, BitVec.reduceUDiv, BitVec.reduceUMod, BitVec.reduceAnd, BitVec.reduceOr, BitVec.reduceXOr, BitVec.reduceNot, BitVec.reduceNeg, BitVec.reduceHShiftLeft, BitVec.reduceHShiftRight, Nat.reduceAdd, Nat.reduceMul, Nat.reduceSub, Nat.reduceBEq, Nat.reduceEqDiff, Nat.reduceLeDiff, Nat.reduceLT, Int.reduceLE, Int.reduceLT, Int.reduceAdd, Int.reduceSub, Int.reduceMul, Int.reduceNeg, Int.reduceToNat, Int.reduceEq, ↓reduceIte, reduceCtorEq, s_idecode_eq, s_iencode_eq, s_live3_eq, h0, h1, a1, dn, inC]; repeat (simp (disch := omega) only [w64_d, ipos, ineg, dpos, dneg]; try simp (config := { maxSteps := 10000000 }) only [go_sem, List.reduceReplicate, BitVec.reduceOfInt, BitVec.reduceToNat, BitVec.reduceToInt, BitVec.reduceEq, BitVec.reduceLT, BitVec.reduceLE, BitVec.reduceAdd, BitVec.reduceSub, BitVec.reduceMul, BitVec.reduceUDiv, BitVec.reduceUMod, BitVec.reduceAnd, BitVec.reduceOr, BitVec.reduceXOr, BitVec.reduceNot, BitVec.reduceNeg, BitVec.reduceHShiftLeft, BitVec.reduceHShiftRight, Nat.reduceAdd, Nat.reduceMul, Nat.reduceSub, Nat.reduceBEq, Nat.reduceEqDiff, Nat.reduceLeDiff, Nat.reduceLT, Int.reduceLE, Int.reduceLT, Int.reduceAdd, Int.reduceSub, Int.reduceMul, Int.reduceNeg, Int.reduceToNat, Int.reduceEq, ↓reduceIte, reduceCtorEq, s_idecode_eq, s_iencode_eq, s_live3_eq, h0, h1, a1, dn, inC]))
      · obtain ⟨rd', r1', r2', im', cs', aq', rl', b1, b2, b3⟩ := back1 hc h0
        by_cases h1 : checkT (fmtT op) rd r1 r2 im cs aq rl = 0
        · obtain ⟨a1, a2, a3⟩ := back2 h1
          (try simp (config := { maxSteps := 10000000 }) only [go_sem, List.reduceReplicate, BitVec.reduceOfInt, BitVec.reduceToNat, BitVec.reduceToInt, BitVec.reduceEq, BitVec.reduceLT, BitVec.reduceLE, BitVec.reduceAdd, BitVec.reduceSub, BitVec.reduceMul, BitVec.reduceUDiv, BitVec.reduceUMod, BitVec.reduceAnd, BitVec.reduceOr, BitVec.reduceXOr, BitVec.reduceNot, BitVec.reduceNeg, BitVec.reduceHShiftLeft, BitVec.reduceHShiftRight, Nat.reduceAdd, Nat.reduceMul, Nat.reduceSub, Nat.reduceBEq, Nat.reduceEqDiff, Nat.reduceLeDiff, Nat.reduceLT, Int.reduceLE, Int.reduceLT, Int.reduceAdd, Int.reduceSub, Int.reduceMul, Int.reduceNeg, Int.reduceToNat, Int.reduceEq, ↓reduceIte, reduceCtorEq, s_idecode_eq, s_iencode_eq, s_live3_eq, h0, h1, a1, a2, a3, b1, b2, b3, inC]; repeat (simp (disch := omega) only [w64_d, ipos, ineg, dpos, dneg]; try simp (config := { maxSteps := 10000000 }) only [go_sem, List.reduceReplicate, BitVec.reduceOfInt, BitVec.reduceToNat, BitVec.reduceToInt, BitVec.reduceEq, BitVec.reduceLT, BitVec.reduceLE, BitVec.reduceAdd, BitVec.reduceSub, BitVec.reduceMul, BitVec.reduceUDiv, BitVec.reduceUMod, BitVec.reduceAnd, BitVec.reduceOr, BitVec.reduceXOr, BitVec.reduceNot, BitVec.reduceNeg, BitVec.reduceHShiftLeft, BitVec.reduceHShiftRight, Nat.reduceAdd, Nat.reduceMul, Nat.reduceSub, Nat.reduceBEq, Nat.reduceEqDiff, Nat.reduceLeDiff, Nat.reduceLT, Int.reduceLE, Int.reduceLT, Int.reduceAdd, Int.reduceSub, Int.reduceMul, Int.reduceNeg, Int.reduceToNat, Int.reduceEq, ↓reduceIte, reduceCtorEq, s_idecode_eq, s_iencode_eq, s_live3_eq, h0, h1, a1, a2, a3, b1, b2, b3, inC]))
        · have a1 := enc_no h1
          (try simp (config := { maxSteps := 10000000 }) only [go_sem, List.reduceReplicate, BitVec.reduceOfInt, BitVec.reduceToNat, BitVec.reduceToInt, BitVec.reduceEq, BitVec.reduceLT, BitVec.reduceLE, BitVec.reduceAdd, BitVec.reduceSub, BitVec.reduceMul, BitVec.reduceUDiv, BitVec.reduceUMod, BitVec.reduceAnd, BitVec.reduceOr, BitVec.reduceXOr, BitVec.reduceNot, BitVec.reduceNeg, BitVec.reduceHShiftLeft, BitVec.reduceHShiftRight, Nat.reduceAdd, Nat.reduceMul, Nat.reduceSub, Nat.reduceBEq, Nat.reduceEqDiff, Nat.reduceLeDiff, Nat.reduceLT, Int.reduceLE, Int.reduceLT, Int.reduceAdd, Int.reduceSub, Int.reduceMul, Int.reduceNeg, Int.reduceToNat, Int.reduceEq, ↓reduceIte, reduceCtorEq, s_idecode_eq, s_iencode_eq, s_live3_eq, h0, h1, a1, b1, b2, b3, inC]; repeat (simp (disch := omega) only [w64_d, ipos, ineg, dpos, dneg]; try simp (config := { maxSteps := 10000000 }) only [go_sem, List.reduceReplicate, BitVec.reduceOfInt, BitVec.reduceToNat, BitVec.reduceToInt, BitVec.reduceEq, BitVec.reduceLT, BitVec.reduceLE, BitVec.reduceAdd, BitVec.reduceSub, BitVec.reduceMul, BitVec.reduceUDiv, BitVec.reduceUMod, BitVec.reduceAnd, BitVec.reduceOr, BitVec.reduceXOr, BitVec.reduceNot, BitVec.reduceNeg, BitVec.reduceHShiftLeft, BitVec.reduceHShiftRight, Nat.reduceAdd, Nat.reduceMul, Nat.reduceSub, Nat.reduceBEq, Nat.reduceEqDiff, Nat.reduceLeDiff, Nat.reduceLT, Int.reduceLE, Int.reduceLT, Int.reduceAdd, Int.reduceSub, Int.reduceMul, Int.reduceNeg, Int.reduceToNat, Int.reduceEq, ↓reduceIte, reduceCtorEq, s_idecode_eq, s_iencode_eq, s_live3_eq, h0, h1, a1, b1, b2, b3, inC]))
    · simp at h
  · simp at h
theorem sig_iback (avs : List AV) (H : AH) (h : SigA [.fl false [.n .u32], .fl true [.n .i64, .n .i64, .n .i64, .n .i64, .n .i64, .n .i64, .q, .q]] avs H) : (fun a (_ : AH) => s_iback a) avs H = some (.c (.b true)) := by
  obtain ⟨s, r, rfl, k, h1⟩ := sig_c h
  obtain ⟨w, rfl, w1, w2⟩ : ∃ x, s = .k .u32 x ∧ 0 ≤ x ∧ x ≤ 4294967295 := by
    cases s with
    | k kd x =>
      simp only [FitK] at k
      obtain ⟨rfl, _, a, b⟩ := k
      exact ⟨x, rfl, a, b⟩
    | _ => simp [FitK] at k
  obtain ⟨l, r1, rfl, g, h2⟩ := sig_g h1
  obtain ⟨x1, l1, rfl, k1, g1⟩ := fit_cons g
  obtain ⟨x2, l2, rfl, k2, g2⟩ := fit_cons g1
  obtain ⟨x3, l3, rfl, k3, g3⟩ := fit_cons g2
  obtain ⟨x4, l4, rfl, k4, g4⟩ := fit_cons g3
  obtain ⟨x5, l5, rfl, k5, g5⟩ := fit_cons g4
  obtain ⟨x6, l6, rfl, k6, g6⟩ := fit_cons g5
  obtain ⟨x7, l7, rfl, k7, g7⟩ := fit_cons g6
  obtain ⟨x8, l8, rfl, k8, g8⟩ := fit_cons g7
  obtain rfl := fit_nil g8
  obtain ⟨x1, rfl, _, _⟩ := fk_i k1
  obtain ⟨x2, rfl, _, _⟩ := fk_i k2
  obtain ⟨x3, rfl, _, _⟩ := fk_i k3
  obtain ⟨x4, rfl, _, _⟩ := fk_i k4
  obtain ⟨x5, rfl, _, _⟩ := fk_i k5
  obtain ⟨x6, rfl, _, _⟩ := fk_i k6
  obtain ⟨x7, rfl⟩ := fk_q k7
  obtain ⟨x8, rfl⟩ := fk_q k8
  obtain rfl := sig_nil h2
  exact s_iback_eq.trans (if_pos ⟨w1, w2⟩)
end
end Go.Proofs.Ytcfnfdafcfpohaa
