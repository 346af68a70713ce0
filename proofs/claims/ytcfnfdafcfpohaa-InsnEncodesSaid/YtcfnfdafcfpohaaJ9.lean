/- Layer 3: the reference tells why an instruction has no word (printed by gj9.py): contracts. -/
import Derived.Test.YtcfnfdafcfpohaaJ7
namespace Go.Proofs.Ytcfnfdafcfpohaa
open Go.Am
set_option linter.unusedSimpArgs false
set_option linter.unusedVariables false
noncomputable section

theorem gyI (y : BitVec 12) : getI (lyI y) = y := by apply all12 <;> simp [getI, lyI]
theorem gyS (y : BitVec 12) : getS (lyS y) = y := by apply all12 <;> simp [getS, lyS]
theorem gyB (y : BitVec 12) : getB (lyB y) = y := by apply all12 <;> simp [getB, lyB]
theorem gyU (y : BitVec 20) : getU (lyU y) = y := by apply all20 <;> simp [getU, lyU]
theorem gyJ (y : BitVec 20) : getJ (lyJ y) = y := by apply all20 <;> simp [getJ, lyJ]
theorem gyH (y : BitVec 6) : getH (lyH y) = y := by apply all6 <;> simp [getH, lyH]
theorem gyW (y : BitVec 5) : getW (lyW y) = y := by apply all5 <;> simp [getW, lyW]
/-- what is laid is the number that was laid, if it fits -/
def backB (f : Nat) (im : Int) : Bool := decide (rimmT f (rlayT f (BitVec.ofInt 64 im)) = im)
theorem back_2 (im : Int) : backB 2 im = fitsT 2 im := by
  unfold backB
  rw [rlay_eq (by decide), rimm_eq (by decide)]
  have e : immT ((2 : Nat) : Int) ((layE ((2 : Nat) : Int) (BitVec.ofInt 64 im)).setWidth 64) = immT 2 ((layE 2 (BitVec.ofInt 64 im)).setWidth 64) := rfl
  rw [e, immI]
  cases hf : fitsT 2 im
  · apply decide_eq_false
    intro h
    rw [← h, fitsI' _] at hf
    exact absurd hf (by decide)
  · apply decide_eq_true
    obtain ⟨y, rfl⟩ := fitsI hf
    rw [lyEI, gyI]
theorem back_3 (im : Int) : backB 3 im = fitsT 3 im := by
  unfold backB
  rw [rlay_eq (by decide), rimm_eq (by decide)]
  have e : immT ((3 : Nat) : Int) ((layE ((3 : Nat) : Int) (BitVec.ofInt 64 im)).setWidth 64) = immT 3 ((layE 3 (BitVec.ofInt 64 im)).setWidth 64) := rfl
  rw [e, immS]
  cases hf : fitsT 3 im
  · apply decide_eq_false
    intro h
    rw [← h, fitsS' _] at hf
    exact absurd hf (by decide)
  · apply decide_eq_true
    obtain ⟨y, rfl⟩ := fitsS hf
    rw [lyES, gyS]
theorem back_4 (im : Int) : backB 4 im = fitsT 4 im := by
  unfold backB
  rw [rlay_eq (by decide), rimm_eq (by decide)]
  have e : immT ((4 : Nat) : Int) ((layE ((4 : Nat) : Int) (BitVec.ofInt 64 im)).setWidth 64) = immT 4 ((layE 4 (BitVec.ofInt 64 im)).setWidth 64) := rfl
  rw [e, immB]
  cases hf : fitsT 4 im
  · apply decide_eq_false
    intro h
    rw [← h, fitsB' _] at hf
    exact absurd hf (by decide)
  · apply decide_eq_true
    obtain ⟨y, rfl⟩ := fitsB hf
    rw [lyEB, gyB]
theorem back_5 (im : Int) : backB 5 im = fitsT 5 im := by
  unfold backB
  rw [rlay_eq (by decide), rimm_eq (by decide)]
  have e : immT ((5 : Nat) : Int) ((layE ((5 : Nat) : Int) (BitVec.ofInt 64 im)).setWidth 64) = immT 5 ((layE 5 (BitVec.ofInt 64 im)).setWidth 64) := rfl
  rw [e, immU]
  cases hf : fitsT 5 im
  · apply decide_eq_false
    intro h
    rw [← h, fitsU' _] at hf
    exact absurd hf (by decide)
  · apply decide_eq_true
    obtain ⟨y, rfl⟩ := fitsU hf
    rw [lyEU, gyU]
theorem back_6 (im : Int) : backB 6 im = fitsT 6 im := by
  unfold backB
  rw [rlay_eq (by decide), rimm_eq (by decide)]
  have e : immT ((6 : Nat) : Int) ((layE ((6 : Nat) : Int) (BitVec.ofInt 64 im)).setWidth 64) = immT 6 ((layE 6 (BitVec.ofInt 64 im)).setWidth 64) := rfl
  rw [e, immJ]
  cases hf : fitsT 6 im
  · apply decide_eq_false
    intro h
    rw [← h, fitsJ' _] at hf
    exact absurd hf (by decide)
  · apply decide_eq_true
    obtain ⟨y, rfl⟩ := fitsJ hf
    rw [lyEJ, gyJ]
theorem back_7 (im : Int) : backB 7 im = fitsT 7 im := by
  unfold backB
  rw [rlay_eq (by decide), rimm_eq (by decide)]
  have e : immT ((7 : Nat) : Int) ((layE ((7 : Nat) : Int) (BitVec.ofInt 64 im)).setWidth 64) = immT 7 ((layE 7 (BitVec.ofInt 64 im)).setWidth 64) := rfl
  rw [e, immH]
  cases hf : fitsT 7 im
  · apply decide_eq_false
    intro h
    rw [← h, fitsH' _] at hf
    exact absurd hf (by decide)
  · apply decide_eq_true
    obtain ⟨y, rfl⟩ := fitsH hf
    rw [lyEH, gyH]
theorem back_8 (im : Int) : backB 8 im = fitsT 8 im := by
  unfold backB
  rw [rlay_eq (by decide), rimm_eq (by decide)]
  have e : immT ((8 : Nat) : Int) ((layE ((8 : Nat) : Int) (BitVec.ofInt 64 im)).setWidth 64) = immT 8 ((layE 8 (BitVec.ofInt 64 im)).setWidth 64) := rfl
  rw [e, immW]
  cases hf : fitsT 8 im
  · apply decide_eq_false
    intro h
    rw [← h, fitsW' _] at hf
    exact absurd hf (by decide)
  · apply decide_eq_true
    obtain ⟨y, rfl⟩ := fitsW hf
    rw [lyEW, gyW]
theorem back_no {f : Nat} (h : plL f = []) : backB f 0 = true := by
  unfold backB
  have : rimmT f (rlayT f (BitVec.ofInt 64 0)) = 0 := if_pos h
  rw [this]; rfl
theorem chk_form {f rd r1 r2 im cs : Int} {aq rl : Bool} (h : f ≠ 0) : checkT f rd r1 r2 im cs aq rl = if formB f rd r1 r2 im cs aq rl = true then 2 else if rd < 0 ∨ 31 < rd ∨ r1 < 0 ∨ 31 < r1 ∨ r2 < 0 ∨ 31 < r2 ∨ cs < 0 ∨ 4095 < cs ∨ fitsT f im = false then 3 else 0 := by
  unfold checkT
  rw [if_neg h]
  split
  · rfl
  have b : ∀ r, (badR r = true) = (r < 0 ∨ 31 < r) := fun r => by simp [badR]
  simp only [b]
  split
  · rw [if_pos]
    rcases ‹_ ∨ _› with h | h | h
    · rcases h with h | h <;> simp [h]
    · rcases h with h | h <;> simp [h]
    · rcases h with h | h <;> simp [h]
  · rename_i h1
    have h2 : (rd < 0 ∨ 31 < rd ∨ r1 < 0 ∨ 31 < r1 ∨ r2 < 0 ∨ 31 < r2 ∨ cs < 0 ∨ 4095 < cs ∨ fitsT f im = false) = (cs < 0 ∨ 4095 < cs ∨ fitsT f im = false) := by
      apply propext
      constructor
      · rintro (h | h | h | h | h | h | h)
        · exact absurd (.inl (.inl h)) h1
        · exact absurd (.inl (.inr h)) h1
        · exact absurd (.inr (.inl (.inl h))) h1
        · exact absurd (.inr (.inl (.inr h))) h1
        · exact absurd (.inr (.inr (.inl h))) h1
        · exact absurd (.inr (.inr (.inr h))) h1
        · exact h
      · exact fun h => .inr (.inr (.inr (.inr (.inr (.inr h)))))
    simp only [h2]
set_option maxHeartbeats 16000000 in
def s_rchk1 (args : List AV) : Option AV :=
  match args with
  | [.g [.i op, .i rd, .i r1, .i r2, .i im, .i cs, .b aq, .b rl]] => if fmtT op = 1 then some (.c (.i (checkT 1 rd r1 r2 im cs aq rl))) else none
  | _ => none
theorem s_rchk1_eq {op rd r1 r2 im cs aq rl} : s_rchk1 [.g [.i op, .i rd, .i r1, .i r2, .i im, .i cs, .b aq, .b rl]] = if fmtT op = 1 then some (.c (.i (checkT 1 rd r1 r2 im cs aq rl))) else none := rfl
set_option maxRecDepth 100000 in
set_option maxHeartbeats 2000000 in
theorem ok_rchk1 : PuOk Try.prog 14 s_rchk1 := by
  refine pu_ok (tab := [(20, .pu s_rfind), (28, .pu s_rhas), (19, .pu s_rlay), (17, .pu s_rimm)]) hmix (TabOk.cons (e := .pu s_rfind) ok_rfind (TabOk.cons (e := .pu s_rhas) ok_rhas (TabOk.cons (e := .pu s_rlay) ok_rlay (TabOk.cons (e := .pu s_rimm) ok_rimm TabOk.nil)))) Try.func14 rfl Try.results14 Try.ntmps14 (by kernel_rfl) (by kernel_rfl) ?_
  intro args v h
  unfold s_rchk1 at h
  split at h
  · rename_i op rd r1 r2 im cs aq rl
    split at h
    · rename_i hc
      simp only [Option.some.injEq] at h; subst h
      refine ⟨by simp only [List.length_cons, List.length_nil]; decide, rfl, rfl, ?_⟩
      obtain ⟨g, g1, g2, p, g3, _⟩ := rowT_eq op
      obtain rfl : g = 1 := by omega
      have nf := nmF_fn g1
      have ez : (fn 1 = (⟨#[]⟩ : ByteArray)) = False := eq_false (by decide)
      have q0 : hasT 1 100 = true := by decide
      have q1 : hasT 1 49 = true := by decide
      have q2 : hasT 1 50 = true := by decide
      have q3 : hasT 1 105 = false := by decide
      have q4 : hasT 1 99 = false := by decide
      have q5 : hasT 1 113 = false := by decide
      have e : checkT 1 rd r1 r2 im cs aq rl = if ¬ im = 0 ∨ ¬ cs = 0 ∨ aq = true ∨ rl = true then 2 else if rd < 0 ∨ 31 < rd ∨ r1 < 0 ∨ 31 < r1 ∨ r2 < 0 ∨ 31 < r2 ∨ cs < 0 ∨ 4095 < cs ∨ fitsT 1 im = false then 3 else 0 := by
        rw [chk_form (by decide)]
        simp [formB, fdT]
      rw [e]
      clear e
      have bk := back_no (f := 1) rfl
      unfold backB at bk
      have ft : fitsT 1 im = true := rfl
      rw [ft]
      (try simp only [go_sem, List.reduceReplicate, Nat.reduceAdd, Nat.reduceMul, Nat.reduceSub, Nat.reduceBEq, Nat.reduceEqDiff, Nat.reduceLeDiff, Nat.reduceLT, Int.reduceLE, Int.reduceLT, Int.reduceAdd, Int.reduceSub, Int.reduceNeg, Int.reduceToNat, Int.reduceEq, ↓reduceIte, reduceCtorEq, s_rfind_eq, s_rhas_eq, s_rlay_eq, s_rimm_eq, g3, nf, ez, q0, q1, q2, q3, q4, q5]; repeat (simp (disch := omega) only [w64_d, ipos, ineg, dpos, dneg]; try simp only [go_sem, List.reduceReplicate, Nat.reduceAdd, Nat.reduceMul, Nat.reduceSub, Nat.reduceBEq, Nat.reduceEqDiff, Nat.reduceLeDiff, Nat.reduceLT, Int.reduceLE, Int.reduceLT, Int.reduceAdd, Int.reduceSub, Int.reduceNeg, Int.reduceToNat, Int.reduceEq, ↓reduceIte, reduceCtorEq, s_rfind_eq, s_rhas_eq, s_rlay_eq, s_rimm_eq, g3, nf, ez, q0, q1, q2, q3, q4, q5]))
      by_cases h_im : im = 0
      subst h_im
      by_cases h_cs : cs = 0
      subst h_cs
      cases aq
      cases rl
      by_cases l_rd : rd < 0
      rotate_left
      by_cases u_rd : 31 < rd
      rotate_left
      by_cases l_r1 : r1 < 0
      rotate_left
      by_cases u_r1 : 31 < r1
      rotate_left
      by_cases l_r2 : r2 < 0
      rotate_left
      by_cases u_r2 : 31 < r2
      rotate_left
      all_goals (try simp only [go_sem, List.reduceReplicate, Nat.reduceAdd, Nat.reduceMul, Nat.reduceSub, Nat.reduceBEq, Nat.reduceEqDiff, Nat.reduceLeDiff, Nat.reduceLT, Int.reduceLE, Int.reduceLT, Int.reduceAdd, Int.reduceSub, Int.reduceNeg, Int.reduceToNat, Int.reduceEq, ↓reduceIte, reduceCtorEq, s_rfind_eq, s_rhas_eq, s_rlay_eq, s_rimm_eq, *]; repeat (simp (disch := omega) only [w64_d, ipos, ineg, dpos, dneg]; try simp only [go_sem, List.reduceReplicate, Nat.reduceAdd, Nat.reduceMul, Nat.reduceSub, Nat.reduceBEq, Nat.reduceEqDiff, Nat.reduceLeDiff, Nat.reduceLT, Int.reduceLE, Int.reduceLT, Int.reduceAdd, Int.reduceSub, Int.reduceNeg, Int.reduceToNat, Int.reduceEq, ↓reduceIte, reduceCtorEq, s_rfind_eq, s_rhas_eq, s_rlay_eq, s_rimm_eq, *]))
      all_goals simp [*]
    · simp at h
  · simp at h
set_option maxHeartbeats 16000000 in
def s_rchk2 (args : List AV) : Option AV :=
  match args with
  | [.g [.i op, .i rd, .i r1, .i r2, .i im, .i cs, .b aq, .b rl]] => if fmtT op = 2 then some (.c (.i (checkT 2 rd r1 r2 im cs aq rl))) else none
  | _ => none
theorem s_rchk2_eq {op rd r1 r2 im cs aq rl} : s_rchk2 [.g [.i op, .i rd, .i r1, .i r2, .i im, .i cs, .b aq, .b rl]] = if fmtT op = 2 then some (.c (.i (checkT 2 rd r1 r2 im cs aq rl))) else none := rfl
set_option maxRecDepth 100000 in
set_option maxHeartbeats 2000000 in
theorem ok_rchk2 : PuOk Try.prog 14 s_rchk2 := by
  refine pu_ok (tab := [(20, .pu s_rfind), (28, .pu s_rhas), (19, .pu s_rlay), (17, .pu s_rimm)]) hmix (TabOk.cons (e := .pu s_rfind) ok_rfind (TabOk.cons (e := .pu s_rhas) ok_rhas (TabOk.cons (e := .pu s_rlay) ok_rlay (TabOk.cons (e := .pu s_rimm) ok_rimm TabOk.nil)))) Try.func14 rfl Try.results14 Try.ntmps14 (by kernel_rfl) (by kernel_rfl) ?_
  intro args v h
  unfold s_rchk2 at h
  split at h
  · rename_i op rd r1 r2 im cs aq rl
    split at h
    · rename_i hc
      simp only [Option.some.injEq] at h; subst h
      refine ⟨by simp only [List.length_cons, List.length_nil]; decide, rfl, rfl, ?_⟩
      obtain ⟨g, g1, g2, p, g3, _⟩ := rowT_eq op
      obtain rfl : g = 2 := by omega
      have nf := nmF_fn g1
      have ez : (fn 2 = (⟨#[]⟩ : ByteArray)) = False := eq_false (by decide)
      have q0 : hasT 2 100 = true := by decide
      have q1 : hasT 2 49 = true := by decide
      have q2 : hasT 2 50 = false := by decide
      have q3 : hasT 2 105 = true := by decide
      have q4 : hasT 2 99 = false := by decide
      have q5 : hasT 2 113 = false := by decide
      have e : checkT 2 rd r1 r2 im cs aq rl = if ¬ r2 = 0 ∨ ¬ cs = 0 ∨ aq = true ∨ rl = true then 2 else if rd < 0 ∨ 31 < rd ∨ r1 < 0 ∨ 31 < r1 ∨ r2 < 0 ∨ 31 < r2 ∨ cs < 0 ∨ 4095 < cs ∨ fitsT 2 im = false then 3 else 0 := by
        rw [chk_form (by decide)]
        simp [formB, fdT]
      rw [e]
      clear e
      have bk := back_2 im
      unfold backB at bk
      generalize fitsT 2 im = ft at *
      (try simp only [go_sem, List.reduceReplicate, Nat.reduceAdd, Nat.reduceMul, Nat.reduceSub, Nat.reduceBEq, Nat.reduceEqDiff, Nat.reduceLeDiff, Nat.reduceLT, Int.reduceLE, Int.reduceLT, Int.reduceAdd, Int.reduceSub, Int.reduceNeg, Int.reduceToNat, Int.reduceEq, ↓reduceIte, reduceCtorEq, s_rfind_eq, s_rhas_eq, s_rlay_eq, s_rimm_eq, g3, nf, ez, q0, q1, q2, q3, q4, q5]; repeat (simp (disch := omega) only [w64_d, ipos, ineg, dpos, dneg]; try simp only [go_sem, List.reduceReplicate, Nat.reduceAdd, Nat.reduceMul, Nat.reduceSub, Nat.reduceBEq, Nat.reduceEqDiff, Nat.reduceLeDiff, Nat.reduceLT, Int.reduceLE, Int.reduceLT, Int.reduceAdd, Int.reduceSub, Int.reduceNeg, Int.reduceToNat, Int.reduceEq, ↓reduceIte, reduceCtorEq, s_rfind_eq, s_rhas_eq, s_rlay_eq, s_rimm_eq, g3, nf, ez, q0, q1, q2, q3, q4, q5]))
      by_cases h_r2 : r2 = 0
      subst h_r2
      by_cases h_cs : cs = 0
      subst h_cs
      cases aq
      cases rl
      by_cases l_rd : rd < 0
      rotate_left
      by_cases u_rd : 31 < rd
      rotate_left
      by_cases l_r1 : r1 < 0
      rotate_left
      by_cases u_r1 : 31 < r1
      rotate_left
      cases ft
      all_goals (try simp only [go_sem, List.reduceReplicate, Nat.reduceAdd, Nat.reduceMul, Nat.reduceSub, Nat.reduceBEq, Nat.reduceEqDiff, Nat.reduceLeDiff, Nat.reduceLT, Int.reduceLE, Int.reduceLT, Int.reduceAdd, Int.reduceSub, Int.reduceNeg, Int.reduceToNat, Int.reduceEq, ↓reduceIte, reduceCtorEq, s_rfind_eq, s_rhas_eq, s_rlay_eq, s_rimm_eq, *]; repeat (simp (disch := omega) only [w64_d, ipos, ineg, dpos, dneg]; try simp only [go_sem, List.reduceReplicate, Nat.reduceAdd, Nat.reduceMul, Nat.reduceSub, Nat.reduceBEq, Nat.reduceEqDiff, Nat.reduceLeDiff, Nat.reduceLT, Int.reduceLE, Int.reduceLT, Int.reduceAdd, Int.reduceSub, Int.reduceNeg, Int.reduceToNat, Int.reduceEq, ↓reduceIte, reduceCtorEq, s_rfind_eq, s_rhas_eq, s_rlay_eq, s_rimm_eq, *]))
      all_goals simp [*]
    · simp at h
  · simp at h
set_option maxHeartbeats 16000000 in
def s_rchk7 (args : List AV) : Option AV :=
  match args with
  | [.g [.i op, .i rd, .i r1, .i r2, .i im, .i cs, .b aq, .b rl]] => if fmtT op = 7 then some (.c (.i (checkT 7 rd r1 r2 im cs aq rl))) else none
  | _ => none
theorem s_rchk7_eq {op rd r1 r2 im cs aq rl} : s_rchk7 [.g [.i op, .i rd, .i r1, .i r2, .i im, .i cs, .b aq, .b rl]] = if fmtT op = 7 then some (.c (.i (checkT 7 rd r1 r2 im cs aq rl))) else none := rfl
set_option maxRecDepth 100000 in
set_option maxHeartbeats 2000000 in
theorem ok_rchk7 : PuOk Try.prog 14 s_rchk7 := by
  refine pu_ok (tab := [(20, .pu s_rfind), (28, .pu s_rhas), (19, .pu s_rlay), (17, .pu s_rimm)]) hmix (TabOk.cons (e := .pu s_rfind) ok_rfind (TabOk.cons (e := .pu s_rhas) ok_rhas (TabOk.cons (e := .pu s_rlay) ok_rlay (TabOk.cons (e := .pu s_rimm) ok_rimm TabOk.nil)))) Try.func14 rfl Try.results14 Try.ntmps14 (by kernel_rfl) (by kernel_rfl) ?_
  intro args v h
  unfold s_rchk7 at h
  split at h
  · rename_i op rd r1 r2 im cs aq rl
    split at h
    · rename_i hc
      simp only [Option.some.injEq] at h; subst h
      refine ⟨by simp only [List.length_cons, List.length_nil]; decide, rfl, rfl, ?_⟩
      obtain ⟨g, g1, g2, p, g3, _⟩ := rowT_eq op
      obtain rfl : g = 7 := by omega
      have nf := nmF_fn g1
      have ez : (fn 7 = (⟨#[]⟩ : ByteArray)) = False := eq_false (by decide)
      have q0 : hasT 7 100 = true := by decide
      have q1 : hasT 7 49 = true := by decide
      have q2 : hasT 7 50 = false := by decide
      have q3 : hasT 7 105 = true := by decide
      have q4 : hasT 7 99 = false := by decide
      have q5 : hasT 7 113 = false := by decide
      have e : checkT 7 rd r1 r2 im cs aq rl = if ¬ r2 = 0 ∨ ¬ cs = 0 ∨ aq = true ∨ rl = true then 2 else if rd < 0 ∨ 31 < rd ∨ r1 < 0 ∨ 31 < r1 ∨ r2 < 0 ∨ 31 < r2 ∨ cs < 0 ∨ 4095 < cs ∨ fitsT 7 im = false then 3 else 0 := by
        rw [chk_form (by decide)]
        simp [formB, fdT]
      rw [e]
      clear e
      have bk := back_7 im
      unfold backB at bk
      generalize fitsT 7 im = ft at *
      (try simp only [go_sem, List.reduceReplicate, Nat.reduceAdd, Nat.reduceMul, Nat.reduceSub, Nat.reduceBEq, Nat.reduceEqDiff, Nat.reduceLeDiff, Nat.reduceLT, Int.reduceLE, Int.reduceLT, Int.reduceAdd, Int.reduceSub, Int.reduceNeg, Int.reduceToNat, Int.reduceEq, ↓reduceIte, reduceCtorEq, s_rfind_eq, s_rhas_eq, s_rlay_eq, s_rimm_eq, g3, nf, ez, q0, q1, q2, q3, q4, q5]; repeat (simp (disch := omega) only [w64_d, ipos, ineg, dpos, dneg]; try simp only [go_sem, List.reduceReplicate, Nat.reduceAdd, Nat.reduceMul, Nat.reduceSub, Nat.reduceBEq, Nat.reduceEqDiff, Nat.reduceLeDiff, Nat.reduceLT, Int.reduceLE, Int.reduceLT, Int.reduceAdd, Int.reduceSub, Int.reduceNeg, Int.reduceToNat, Int.reduceEq, ↓reduceIte, reduceCtorEq, s_rfind_eq, s_rhas_eq, s_rlay_eq, s_rimm_eq, g3, nf, ez, q0, q1, q2, q3, q4, q5]))
      by_cases h_r2 : r2 = 0
      subst h_r2
      by_cases h_cs : cs = 0
      subst h_cs
      cases aq
      cases rl
      by_cases l_rd : rd < 0
      rotate_left
      by_cases u_rd : 31 < rd
      rotate_left
      by_cases l_r1 : r1 < 0
      rotate_left
      by_cases u_r1 : 31 < r1
      rotate_left
      cases ft
      all_goals (try simp only [go_sem, List.reduceReplicate, Nat.reduceAdd, Nat.reduceMul, Nat.reduceSub, Nat.reduceBEq, Nat.reduceEqDiff, Nat.reduceLeDiff, Nat.reduceLT, Int.reduceLE, Int.reduceLT, Int.reduceAdd, Int.reduceSub, Int.reduceNeg, Int.reduceToNat, Int.reduceEq, ↓reduceIte, reduceCtorEq, s_rfind_eq, s_rhas_eq, s_rlay_eq, s_rimm_eq, *]; repeat (simp (disch := omega) only [w64_d, ipos, ineg, dpos, dneg]; try simp only [go_sem, List.reduceReplicate, Nat.reduceAdd, Nat.reduceMul, Nat.reduceSub, Nat.reduceBEq, Nat.reduceEqDiff, Nat.reduceLeDiff, Nat.reduceLT, Int.reduceLE, Int.reduceLT, Int.reduceAdd, Int.reduceSub, Int.reduceNeg, Int.reduceToNat, Int.reduceEq, ↓reduceIte, reduceCtorEq, s_rfind_eq, s_rhas_eq, s_rlay_eq, s_rimm_eq, *]))
      all_goals simp [*]
    · simp at h
  · simp at h
set_option maxHeartbeats 16000000 in
def s_rchk8 (args : List AV) : Option AV :=
  match args with
  | [.g [.i op, .i rd, .i r1, .i r2, .i im, .i cs, .b aq, .b rl]] => if fmtT op = 8 then some (.c (.i (checkT 8 rd r1 r2 im cs aq rl))) else none
  | _ => none
theorem s_rchk8_eq {op rd r1 r2 im cs aq rl} : s_rchk8 [.g [.i op, .i rd, .i r1, .i r2, .i im, .i cs, .b aq, .b rl]] = if fmtT op = 8 then some (.c (.i (checkT 8 rd r1 r2 im cs aq rl))) else none := rfl
set_option maxRecDepth 100000 in
set_option maxHeartbeats 2000000 in
theorem ok_rchk8 : PuOk Try.prog 14 s_rchk8 := by
  refine pu_ok (tab := [(20, .pu s_rfind), (28, .pu s_rhas), (19, .pu s_rlay), (17, .pu s_rimm)]) hmix (TabOk.cons (e := .pu s_rfind) ok_rfind (TabOk.cons (e := .pu s_rhas) ok_rhas (TabOk.cons (e := .pu s_rlay) ok_rlay (TabOk.cons (e := .pu s_rimm) ok_rimm TabOk.nil)))) Try.func14 rfl Try.results14 Try.ntmps14 (by kernel_rfl) (by kernel_rfl) ?_
  intro args v h
  unfold s_rchk8 at h
  split at h
  · rename_i op rd r1 r2 im cs aq rl
    split at h
    · rename_i hc
      simp only [Option.some.injEq] at h; subst h
      refine ⟨by simp only [List.length_cons, List.length_nil]; decide, rfl, rfl, ?_⟩
      obtain ⟨g, g1, g2, p, g3, _⟩ := rowT_eq op
      obtain rfl : g = 8 := by omega
      have nf := nmF_fn g1
      have ez : (fn 8 = (⟨#[]⟩ : ByteArray)) = False := eq_false (by decide)
      have q0 : hasT 8 100 = true := by decide
      have q1 : hasT 8 49 = true := by decide
      have q2 : hasT 8 50 = false := by decide
      have q3 : hasT 8 105 = true := by decide
      have q4 : hasT 8 99 = false := by decide
      have q5 : hasT 8 113 = false := by decide
      have e : checkT 8 rd r1 r2 im cs aq rl = if ¬ r2 = 0 ∨ ¬ cs = 0 ∨ aq = true ∨ rl = true then 2 else if rd < 0 ∨ 31 < rd ∨ r1 < 0 ∨ 31 < r1 ∨ r2 < 0 ∨ 31 < r2 ∨ cs < 0 ∨ 4095 < cs ∨ fitsT 8 im = false then 3 else 0 := by
        rw [chk_form (by decide)]
        simp [formB, fdT]
      rw [e]
      clear e
      have bk := back_8 im
      unfold backB at bk
      generalize fitsT 8 im = ft at *
      (try simp only [go_sem, List.reduceReplicate, Nat.reduceAdd, Nat.reduceMul, Nat.reduceSub, Nat.reduceBEq, Nat.reduceEqDiff, Nat.reduceLeDiff, Nat.reduceLT, Int.reduceLE, Int.reduceLT, Int.reduceAdd, Int.reduceSub, Int.reduceNeg, Int.reduceToNat, Int.reduceEq, ↓reduceIte, reduceCtorEq, s_rfind_eq, s_rhas_eq, s_rlay_eq, s_rimm_eq, g3, nf, ez, q0, q1, q2, q3, q4, q5]; repeat (simp (disch := omega) only [w64_d, ipos, ineg, dpos, dneg]; try simp only [go_sem, List.reduceReplicate, Nat.reduceAdd, Nat.reduceMul, Nat.reduceSub, Nat.reduceBEq, Nat.reduceEqDiff, Nat.reduceLeDiff, Nat.reduceLT, Int.reduceLE, Int.reduceLT, Int.reduceAdd, Int.reduceSub, Int.reduceNeg, Int.reduceToNat, Int.reduceEq, ↓reduceIte, reduceCtorEq, s_rfind_eq, s_rhas_eq, s_rlay_eq, s_rimm_eq, g3, nf, ez, q0, q1, q2, q3, q4, q5]))
      by_cases h_r2 : r2 = 0
      subst h_r2
      by_cases h_cs : cs = 0
      subst h_cs
      cases aq
      cases rl
      by_cases l_rd : rd < 0
      rotate_left
      by_cases u_rd : 31 < rd
      rotate_left
      by_cases l_r1 : r1 < 0
      rotate_left
      by_cases u_r1 : 31 < r1
      rotate_left
      cases ft
      all_goals (try simp only [go_sem, List.reduceReplicate, Nat.reduceAdd, Nat.reduceMul, Nat.reduceSub, Nat.reduceBEq, Nat.reduceEqDiff, Nat.reduceLeDiff, Nat.reduceLT, Int.reduceLE, Int.reduceLT, Int.reduceAdd, Int.reduceSub, Int.reduceNeg, Int.reduceToNat, Int.reduceEq, ↓reduceIte, reduceCtorEq, s_rfind_eq, s_rhas_eq, s_rlay_eq, s_rimm_eq, *]; repeat (simp (disch := omega) only [w64_d, ipos, ineg, dpos, dneg]; try simp only [go_sem, List.reduceReplicate, Nat.reduceAdd, Nat.reduceMul, Nat.reduceSub, Nat.reduceBEq, Nat.reduceEqDiff, Nat.reduceLeDiff, Nat.reduceLT, Int.reduceLE, Int.reduceLT, Int.reduceAdd, Int.reduceSub, Int.reduceNeg, Int.reduceToNat, Int.reduceEq, ↓reduceIte, reduceCtorEq, s_rfind_eq, s_rhas_eq, s_rlay_eq, s_rimm_eq, *]))
      all_goals simp [*]
    · simp at h
  · simp at h
set_option maxHeartbeats 16000000 in
def s_rchk3 (args : List AV) : Option AV :=
  match args with
  | [.g [.i op, .i rd, .i r1, .i r2, .i im, .i cs, .b aq, .b rl]] => if fmtT op = 3 then some (.c (.i (checkT 3 rd r1 r2 im cs aq rl))) else none
  | _ => none
theorem s_rchk3_eq {op rd r1 r2 im cs aq rl} : s_rchk3 [.g [.i op, .i rd, .i r1, .i r2, .i im, .i cs, .b aq, .b rl]] = if fmtT op = 3 then some (.c (.i (checkT 3 rd r1 r2 im cs aq rl))) else none := rfl
set_option maxRecDepth 100000 in
set_option maxHeartbeats 2000000 in
theorem ok_rchk3 : PuOk Try.prog 14 s_rchk3 := by
  refine pu_ok (tab := [(20, .pu s_rfind), (28, .pu s_rhas), (19, .pu s_rlay), (17, .pu s_rimm)]) hmix (TabOk.cons (e := .pu s_rfind) ok_rfind (TabOk.cons (e := .pu s_rhas) ok_rhas (TabOk.cons (e := .pu s_rlay) ok_rlay (TabOk.cons (e := .pu s_rimm) ok_rimm TabOk.nil)))) Try.func14 rfl Try.results14 Try.ntmps14 (by kernel_rfl) (by kernel_rfl) ?_
  intro args v h
  unfold s_rchk3 at h
  split at h
  · rename_i op rd r1 r2 im cs aq rl
    split at h
    · rename_i hc
      simp only [Option.some.injEq] at h; subst h
      refine ⟨by simp only [List.length_cons, List.length_nil]; decide, rfl, rfl, ?_⟩
      obtain ⟨g, g1, g2, p, g3, _⟩ := rowT_eq op
      obtain rfl : g = 3 := by omega
      have nf := nmF_fn g1
      have ez : (fn 3 = (⟨#[]⟩ : ByteArray)) = False := eq_false (by decide)
      have q0 : hasT 3 100 = false := by decide
      have q1 : hasT 3 49 = true := by decide
      have q2 : hasT 3 50 = true := by decide
      have q3 : hasT 3 105 = true := by decide
      have q4 : hasT 3 99 = false := by decide
      have q5 : hasT 3 113 = false := by decide
      have e : checkT 3 rd r1 r2 im cs aq rl = if ¬ rd = 0 ∨ ¬ cs = 0 ∨ aq = true ∨ rl = true then 2 else if rd < 0 ∨ 31 < rd ∨ r1 < 0 ∨ 31 < r1 ∨ r2 < 0 ∨ 31 < r2 ∨ cs < 0 ∨ 4095 < cs ∨ fitsT 3 im = false then 3 else 0 := by
        rw [chk_form (by decide)]
        simp [formB, fdT]
      rw [e]
      clear e
      have bk := back_3 im
      unfold backB at bk
      generalize fitsT 3 im = ft at *
      (try simp only [go_sem, List.reduceReplicate, Nat.reduceAdd, Nat.reduceMul, Nat.reduceSub, Nat.reduceBEq, Nat.reduceEqDiff, Nat.reduceLeDiff, Nat.reduceLT, Int.reduceLE, Int.reduceLT, Int.reduceAdd, Int.reduceSub, Int.reduceNeg, Int.reduceToNat, Int.reduceEq, ↓reduceIte, reduceCtorEq, s_rfind_eq, s_rhas_eq, s_rlay_eq, s_rimm_eq, g3, nf, ez, q0, q1, q2, q3, q4, q5]; repeat (simp (disch := omega) only [w64_d, ipos, ineg, dpos, dneg]; try simp only [go_sem, List.reduceReplicate, Nat.reduceAdd, Nat.reduceMul, Nat.reduceSub, Nat.reduceBEq, Nat.reduceEqDiff, Nat.reduceLeDiff, Nat.reduceLT, Int.reduceLE, Int.reduceLT, Int.reduceAdd, Int.reduceSub, Int.reduceNeg, Int.reduceToNat, Int.reduceEq, ↓reduceIte, reduceCtorEq, s_rfind_eq, s_rhas_eq, s_rlay_eq, s_rimm_eq, g3, nf, ez, q0, q1, q2, q3, q4, q5]))
      by_cases h_rd : rd = 0
      subst h_rd
      by_cases h_cs : cs = 0
      subst h_cs
      cases aq
      cases rl
      by_cases l_r1 : r1 < 0
      rotate_left
      by_cases u_r1 : 31 < r1
      rotate_left
      by_cases l_r2 : r2 < 0
      rotate_left
      by_cases u_r2 : 31 < r2
      rotate_left
      cases ft
      all_goals (try simp only [go_sem, List.reduceReplicate, Nat.reduceAdd, Nat.reduceMul, Nat.reduceSub, Nat.reduceBEq, Nat.reduceEqDiff, Nat.reduceLeDiff, Nat.reduceLT, Int.reduceLE, Int.reduceLT, Int.reduceAdd, Int.reduceSub, Int.reduceNeg, Int.reduceToNat, Int.reduceEq, ↓reduceIte, reduceCtorEq, s_rfind_eq, s_rhas_eq, s_rlay_eq, s_rimm_eq, *]; repeat (simp (disch := omega) only [w64_d, ipos, ineg, dpos, dneg]; try simp only [go_sem, List.reduceReplicate, Nat.reduceAdd, Nat.reduceMul, Nat.reduceSub, Nat.reduceBEq, Nat.reduceEqDiff, Nat.reduceLeDiff, Nat.reduceLT, Int.reduceLE, Int.reduceLT, Int.reduceAdd, Int.reduceSub, Int.reduceNeg, Int.reduceToNat, Int.reduceEq, ↓reduceIte, reduceCtorEq, s_rfind_eq, s_rhas_eq, s_rlay_eq, s_rimm_eq, *]))
      all_goals simp [*]
    · simp at h
  · simp at h
set_option maxHeartbeats 16000000 in
def s_rchk4 (args : List AV) : Option AV :=
  match args with
  | [.g [.i op, .i rd, .i r1, .i r2, .i im, .i cs, .b aq, .b rl]] => if fmtT op = 4 then some (.c (.i (checkT 4 rd r1 r2 im cs aq rl))) else none
  | _ => none
theorem s_rchk4_eq {op rd r1 r2 im cs aq rl} : s_rchk4 [.g [.i op, .i rd, .i r1, .i r2, .i im, .i cs, .b aq, .b rl]] = if fmtT op = 4 then some (.c (.i (checkT 4 rd r1 r2 im cs aq rl))) else none := rfl
set_option maxRecDepth 100000 in
set_option maxHeartbeats 2000000 in
theorem ok_rchk4 : PuOk Try.prog 14 s_rchk4 := by
  refine pu_ok (tab := [(20, .pu s_rfind), (28, .pu s_rhas), (19, .pu s_rlay), (17, .pu s_rimm)]) hmix (TabOk.cons (e := .pu s_rfind) ok_rfind (TabOk.cons (e := .pu s_rhas) ok_rhas (TabOk.cons (e := .pu s_rlay) ok_rlay (TabOk.cons (e := .pu s_rimm) ok_rimm TabOk.nil)))) Try.func14 rfl Try.results14 Try.ntmps14 (by kernel_rfl) (by kernel_rfl) ?_
  intro args v h
  unfold s_rchk4 at h
  split at h
  · rename_i op rd r1 r2 im cs aq rl
    split at h
    · rename_i hc
      simp only [Option.some.injEq] at h; subst h
      refine ⟨by simp only [List.length_cons, List.length_nil]; decide, rfl, rfl, ?_⟩
      obtain ⟨g, g1, g2, p, g3, _⟩ := rowT_eq op
      obtain rfl : g = 4 := by omega
      have nf := nmF_fn g1
      have ez : (fn 4 = (⟨#[]⟩ : ByteArray)) = False := eq_false (by decide)
      have q0 : hasT 4 100 = false := by decide
      have q1 : hasT 4 49 = true := by decide
      have q2 : hasT 4 50 = true := by decide
      have q3 : hasT 4 105 = true := by decide
      have q4 : hasT 4 99 = false := by decide
      have q5 : hasT 4 113 = false := by decide
      have e : checkT 4 rd r1 r2 im cs aq rl = if ¬ rd = 0 ∨ ¬ cs = 0 ∨ aq = true ∨ rl = true then 2 else if rd < 0 ∨ 31 < rd ∨ r1 < 0 ∨ 31 < r1 ∨ r2 < 0 ∨ 31 < r2 ∨ cs < 0 ∨ 4095 < cs ∨ fitsT 4 im = false then 3 else 0 := by
        rw [chk_form (by decide)]
        simp [formB, fdT]
      rw [e]
      clear e
      have bk := back_4 im
      unfold backB at bk
      generalize fitsT 4 im = ft at *
      (try simp only [go_sem, List.reduceReplicate, Nat.reduceAdd, Nat.reduceMul, Nat.reduceSub, Nat.reduceBEq, Nat.reduceEqDiff, Nat.reduceLeDiff, Nat.reduceLT, Int.reduceLE, Int.reduceLT, Int.reduceAdd, Int.reduceSub, Int.reduceNeg, Int.reduceToNat, Int.reduceEq, ↓reduceIte, reduceCtorEq, s_rfind_eq, s_rhas_eq, s_rlay_eq, s_rimm_eq, g3, nf, ez, q0, q1, q2, q3, q4, q5]; repeat (simp (disch := omega) only [w64_d, ipos, ineg, dpos, dneg]; try simp only [go_sem, List.reduceReplicate, Nat.reduceAdd, Nat.reduceMul, Nat.reduceSub, Nat.reduceBEq, Nat.reduceEqDiff, Nat.reduceLeDiff, Nat.reduceLT, Int.reduceLE, Int.reduceLT, Int.reduceAdd, Int.reduceSub, Int.reduceNeg, Int.reduceToNat, Int.reduceEq, ↓reduceIte, reduceCtorEq, s_rfind_eq, s_rhas_eq, s_rlay_eq, s_rimm_eq, g3, nf, ez, q0, q1, q2, q3, q4, q5]))
      by_cases h_rd : rd = 0
      subst h_rd
      by_cases h_cs : cs = 0
      subst h_cs
      cases aq
      cases rl
      by_cases l_r1 : r1 < 0
      rotate_left
      by_cases u_r1 : 31 < r1
      rotate_left
      by_cases l_r2 : r2 < 0
      rotate_left
      by_cases u_r2 : 31 < r2
      rotate_left
      cases ft
      all_goals (try simp only [go_sem, List.reduceReplicate, Nat.reduceAdd, Nat.reduceMul, Nat.reduceSub, Nat.reduceBEq, Nat.reduceEqDiff, Nat.reduceLeDiff, Nat.reduceLT, Int.reduceLE, Int.reduceLT, Int.reduceAdd, Int.reduceSub, Int.reduceNeg, Int.reduceToNat, Int.reduceEq, ↓reduceIte, reduceCtorEq, s_rfind_eq, s_rhas_eq, s_rlay_eq, s_rimm_eq, *]; repeat (simp (disch := omega) only [w64_d, ipos, ineg, dpos, dneg]; try simp only [go_sem, List.reduceReplicate, Nat.reduceAdd, Nat.reduceMul, Nat.reduceSub, Nat.reduceBEq, Nat.reduceEqDiff, Nat.reduceLeDiff, Nat.reduceLT, Int.reduceLE, Int.reduceLT, Int.reduceAdd, Int.reduceSub, Int.reduceNeg, Int.reduceToNat, Int.reduceEq, ↓reduceIte, reduceCtorEq, s_rfind_eq, s_rhas_eq, s_rlay_eq, s_rimm_eq, *]))
      all_goals simp [*]
    · simp at h
  · simp at h
set_option maxHeartbeats 16000000 in
def s_rchk5 (args : List AV) : Option AV :=
  match args with
  | [.g [.i op, .i rd, .i r1, .i r2, .i im, .i cs, .b aq, .b rl]] => if fmtT op = 5 then some (.c (.i (checkT 5 rd r1 r2 im cs aq rl))) else none
  | _ => none
theorem s_rchk5_eq {op rd r1 r2 im cs aq rl} : s_rchk5 [.g [.i op, .i rd, .i r1, .i r2, .i im, .i cs, .b aq, .b rl]] = if fmtT op = 5 then some (.c (.i (checkT 5 rd r1 r2 im cs aq rl))) else none := rfl
set_option maxRecDepth 100000 in
set_option maxHeartbeats 2000000 in
theorem ok_rchk5 : PuOk Try.prog 14 s_rchk5 := by
  refine pu_ok (tab := [(20, .pu s_rfind), (28, .pu s_rhas), (19, .pu s_rlay), (17, .pu s_rimm)]) hmix (TabOk.cons (e := .pu s_rfind) ok_rfind (TabOk.cons (e := .pu s_rhas) ok_rhas (TabOk.cons (e := .pu s_rlay) ok_rlay (TabOk.cons (e := .pu s_rimm) ok_rimm TabOk.nil)))) Try.func14 rfl Try.results14 Try.ntmps14 (by kernel_rfl) (by kernel_rfl) ?_
  intro args v h
  unfold s_rchk5 at h
  split at h
  · rename_i op rd r1 r2 im cs aq rl
    split at h
    · rename_i hc
      simp only [Option.some.injEq] at h; subst h
      refine ⟨by simp only [List.length_cons, List.length_nil]; decide, rfl, rfl, ?_⟩
      obtain ⟨g, g1, g2, p, g3, _⟩ := rowT_eq op
      obtain rfl : g = 5 := by omega
      have nf := nmF_fn g1
      have ez : (fn 5 = (⟨#[]⟩ : ByteArray)) = False := eq_false (by decide)
      have q0 : hasT 5 100 = true := by decide
      have q1 : hasT 5 49 = false := by decide
      have q2 : hasT 5 50 = false := by decide
      have q3 : hasT 5 105 = true := by decide
      have q4 : hasT 5 99 = false := by decide
      have q5 : hasT 5 113 = false := by decide
      have e : checkT 5 rd r1 r2 im cs aq rl = if ¬ r1 = 0 ∨ ¬ r2 = 0 ∨ ¬ cs = 0 ∨ aq = true ∨ rl = true then 2 else if rd < 0 ∨ 31 < rd ∨ r1 < 0 ∨ 31 < r1 ∨ r2 < 0 ∨ 31 < r2 ∨ cs < 0 ∨ 4095 < cs ∨ fitsT 5 im = false then 3 else 0 := by
        rw [chk_form (by decide)]
        simp [formB, fdT]
      rw [e]
      clear e
      have bk := back_5 im
      unfold backB at bk
      generalize fitsT 5 im = ft at *
      (try simp only [go_sem, List.reduceReplicate, Nat.reduceAdd, Nat.reduceMul, Nat.reduceSub, Nat.reduceBEq, Nat.reduceEqDiff, Nat.reduceLeDiff, Nat.reduceLT, Int.reduceLE, Int.reduceLT, Int.reduceAdd, Int.reduceSub, Int.reduceNeg, Int.reduceToNat, Int.reduceEq, ↓reduceIte, reduceCtorEq, s_rfind_eq, s_rhas_eq, s_rlay_eq, s_rimm_eq, g3, nf, ez, q0, q1, q2, q3, q4, q5]; repeat (simp (disch := omega) only [w64_d, ipos, ineg, dpos, dneg]; try simp only [go_sem, List.reduceReplicate, Nat.reduceAdd, Nat.reduceMul, Nat.reduceSub, Nat.reduceBEq, Nat.reduceEqDiff, Nat.reduceLeDiff, Nat.reduceLT, Int.reduceLE, Int.reduceLT, Int.reduceAdd, Int.reduceSub, Int.reduceNeg, Int.reduceToNat, Int.reduceEq, ↓reduceIte, reduceCtorEq, s_rfind_eq, s_rhas_eq, s_rlay_eq, s_rimm_eq, g3, nf, ez, q0, q1, q2, q3, q4, q5]))
      by_cases h_r1 : r1 = 0
      subst h_r1
      by_cases h_r2 : r2 = 0
      subst h_r2
      by_cases h_cs : cs = 0
      subst h_cs
      cases aq
      cases rl
      by_cases l_rd : rd < 0
      rotate_left
      by_cases u_rd : 31 < rd
      rotate_left
      cases ft
      all_goals (try simp only [go_sem, List.reduceReplicate, Nat.reduceAdd, Nat.reduceMul, Nat.reduceSub, Nat.reduceBEq, Nat.reduceEqDiff, Nat.reduceLeDiff, Nat.reduceLT, Int.reduceLE, Int.reduceLT, Int.reduceAdd, Int.reduceSub, Int.reduceNeg, Int.reduceToNat, Int.reduceEq, ↓reduceIte, reduceCtorEq, s_rfind_eq, s_rhas_eq, s_rlay_eq, s_rimm_eq, *]; repeat (simp (disch := omega) only [w64_d, ipos, ineg, dpos, dneg]; try simp only [go_sem, List.reduceReplicate, Nat.reduceAdd, Nat.reduceMul, Nat.reduceSub, Nat.reduceBEq, Nat.reduceEqDiff, Nat.reduceLeDiff, Nat.reduceLT, Int.reduceLE, Int.reduceLT, Int.reduceAdd, Int.reduceSub, Int.reduceNeg, Int.reduceToNat, Int.reduceEq, ↓reduceIte, reduceCtorEq, s_rfind_eq, s_rhas_eq, s_rlay_eq, s_rimm_eq, *]))
      all_goals simp [*]
    · simp at h
  · simp at h
set_option maxHeartbeats 16000000 in
def s_rchk6 (args : List AV) : Option AV :=
  match args with
  | [.g [.i op, .i rd, .i r1, .i r2, .i im, .i cs, .b aq, .b rl]] => if fmtT op = 6 then some (.c (.i (checkT 6 rd r1 r2 im cs aq rl))) else none
  | _ => none
theorem s_rchk6_eq {op rd r1 r2 im cs aq rl} : s_rchk6 [.g [.i op, .i rd, .i r1, .i r2, .i im, .i cs, .b aq, .b rl]] = if fmtT op = 6 then some (.c (.i (checkT 6 rd r1 r2 im cs aq rl))) else none := rfl
set_option maxRecDepth 100000 in
set_option maxHeartbeats 2000000 in
theorem ok_rchk6 : PuOk Try.prog 14 s_rchk6 := by
  refine pu_ok (tab := [(20, .pu s_rfind), (28, .pu s_rhas), (19, .pu s_rlay), (17, .pu s_rimm)]) hmix (TabOk.cons (e := .pu s_rfind) ok_rfind (TabOk.cons (e := .pu s_rhas) ok_rhas (TabOk.cons (e := .pu s_rlay) ok_rlay (TabOk.cons (e := .pu s_rimm) ok_rimm TabOk.nil)))) Try.func14 rfl Try.results14 Try.ntmps14 (by kernel_rfl) (by kernel_rfl) ?_
  intro args v h
  unfold s_rchk6 at h
  split at h
  · rename_i op rd r1 r2 im cs aq rl
    split at h
    · rename_i hc
      simp only [Option.some.injEq] at h; subst h
      refine ⟨by simp only [List.length_cons, List.length_nil]; decide, rfl, rfl, ?_⟩
      obtain ⟨g, g1, g2, p, g3, _⟩ := rowT_eq op
      obtain rfl : g = 6 := by omega
      have nf := nmF_fn g1
      have ez : (fn 6 = (⟨#[]⟩ : ByteArray)) = False := eq_false (by decide)
      have q0 : hasT 6 100 = true := by decide
      have q1 : hasT 6 49 = false := by decide
      have q2 : hasT 6 50 = false := by decide
      have q3 : hasT 6 105 = true := by decide
      have q4 : hasT 6 99 = false := by decide
      have q5 : hasT 6 113 = false := by decide
      have e : checkT 6 rd r1 r2 im cs aq rl = if ¬ r1 = 0 ∨ ¬ r2 = 0 ∨ ¬ cs = 0 ∨ aq = true ∨ rl = true then 2 else if rd < 0 ∨ 31 < rd ∨ r1 < 0 ∨ 31 < r1 ∨ r2 < 0 ∨ 31 < r2 ∨ cs < 0 ∨ 4095 < cs ∨ fitsT 6 im = false then 3 else 0 := by
        rw [chk_form (by decide)]
        simp [formB, fdT]
      rw [e]
      clear e
      have bk := back_6 im
      unfold backB at bk
      generalize fitsT 6 im = ft at *
      (try simp only [go_sem, List.reduceReplicate, Nat.reduceAdd, Nat.reduceMul, Nat.reduceSub, Nat.reduceBEq, Nat.reduceEqDiff, Nat.reduceLeDiff, Nat.reduceLT, Int.reduceLE, Int.reduceLT, Int.reduceAdd, Int.reduceSub, Int.reduceNeg, Int.reduceToNat, Int.reduceEq, ↓reduceIte, reduceCtorEq, s_rfind_eq, s_rhas_eq, s_rlay_eq, s_rimm_eq, g3, nf, ez, q0, q1, q2, q3, q4, q5]; repeat (simp (disch := omega) only [w64_d, ipos, ineg, dpos, dneg]; try simp only [go_sem, List.reduceReplicate, Nat.reduceAdd, Nat.reduceMul, Nat.reduceSub, Nat.reduceBEq, Nat.reduceEqDiff, Nat.reduceLeDiff, Nat.reduceLT, Int.reduceLE, Int.reduceLT, Int.reduceAdd, Int.reduceSub, Int.reduceNeg, Int.reduceToNat, Int.reduceEq, ↓reduceIte, reduceCtorEq, s_rfind_eq, s_rhas_eq, s_rlay_eq, s_rimm_eq, g3, nf, ez, q0, q1, q2, q3, q4, q5]))
      by_cases h_r1 : r1 = 0
      subst h_r1
      by_cases h_r2 : r2 = 0
      subst h_r2
      by_cases h_cs : cs = 0
      subst h_cs
      cases aq
      cases rl
      by_cases l_rd : rd < 0
      rotate_left
      by_cases u_rd : 31 < rd
      rotate_left
      cases ft
      all_goals (try simp only [go_sem, List.reduceReplicate, Nat.reduceAdd, Nat.reduceMul, Nat.reduceSub, Nat.reduceBEq, Nat.reduceEqDiff, Nat.reduceLeDiff, Nat.reduceLT, Int.reduceLE, Int.reduceLT, Int.reduceAdd, Int.reduceSub, Int.reduceNeg, Int.reduceToNat, Int.reduceEq, ↓reduceIte, reduceCtorEq, s_rfind_eq, s_rhas_eq, s_rlay_eq, s_rimm_eq, *]; repeat (simp (disch := omega) only [w64_d, ipos, ineg, dpos, dneg]; try simp only [go_sem, List.reduceReplicate, Nat.reduceAdd, Nat.reduceMul, Nat.reduceSub, Nat.reduceBEq, Nat.reduceEqDiff, Nat.reduceLeDiff, Nat.reduceLT, Int.reduceLE, Int.reduceLT, Int.reduceAdd, Int.reduceSub, Int.reduceNeg, Int.reduceToNat, Int.reduceEq, ↓reduceIte, reduceCtorEq, s_rfind_eq, s_rhas_eq, s_rlay_eq, s_rimm_eq, *]))
      all_goals simp [*]
    · simp at h
  · simp at h
set_option maxHeartbeats 16000000 in
def s_rchk9 (args : List AV) : Option AV :=
  match args with
  | [.g [.i op, .i rd, .i r1, .i r2, .i im, .i cs, .b aq, .b rl]] => if fmtT op = 9 then some (.c (.i (checkT 9 rd r1 r2 im cs aq rl))) else none
  | _ => none
theorem s_rchk9_eq {op rd r1 r2 im cs aq rl} : s_rchk9 [.g [.i op, .i rd, .i r1, .i r2, .i im, .i cs, .b aq, .b rl]] = if fmtT op = 9 then some (.c (.i (checkT 9 rd r1 r2 im cs aq rl))) else none := rfl
set_option maxRecDepth 100000 in
set_option maxHeartbeats 2000000 in
theorem ok_rchk9 : PuOk Try.prog 14 s_rchk9 := by
  refine pu_ok (tab := [(20, .pu s_rfind), (28, .pu s_rhas), (19, .pu s_rlay), (17, .pu s_rimm)]) hmix (TabOk.cons (e := .pu s_rfind) ok_rfind (TabOk.cons (e := .pu s_rhas) ok_rhas (TabOk.cons (e := .pu s_rlay) ok_rlay (TabOk.cons (e := .pu s_rimm) ok_rimm TabOk.nil)))) Try.func14 rfl Try.results14 Try.ntmps14 (by kernel_rfl) (by kernel_rfl) ?_
  intro args v h
  unfold s_rchk9 at h
  split at h
  · rename_i op rd r1 r2 im cs aq rl
    split at h
    · rename_i hc
      simp only [Option.some.injEq] at h; subst h
      refine ⟨by simp only [List.length_cons, List.length_nil]; decide, rfl, rfl, ?_⟩
      obtain ⟨g, g1, g2, p, g3, _⟩ := rowT_eq op
      obtain rfl : g = 9 := by omega
      have nf := nmF_fn g1
      have ez : (fn 9 = (⟨#[]⟩ : ByteArray)) = False := eq_false (by decide)
      have q0 : hasT 9 100 = true := by decide
      have q1 : hasT 9 49 = true := by decide
      have q2 : hasT 9 50 = false := by decide
      have q3 : hasT 9 105 = false := by decide
      have q4 : hasT 9 99 = true := by decide
      have q5 : hasT 9 113 = false := by decide
      have e : checkT 9 rd r1 r2 im cs aq rl = if ¬ r2 = 0 ∨ ¬ im = 0 ∨ aq = true ∨ rl = true then 2 else if rd < 0 ∨ 31 < rd ∨ r1 < 0 ∨ 31 < r1 ∨ r2 < 0 ∨ 31 < r2 ∨ cs < 0 ∨ 4095 < cs ∨ fitsT 9 im = false then 3 else 0 := by
        rw [chk_form (by decide)]
        simp [formB, fdT]
      rw [e]
      clear e
      have bk := back_no (f := 9) rfl
      unfold backB at bk
      have ft : fitsT 9 im = true := rfl
      rw [ft]
      (try simp only [go_sem, List.reduceReplicate, Nat.reduceAdd, Nat.reduceMul, Nat.reduceSub, Nat.reduceBEq, Nat.reduceEqDiff, Nat.reduceLeDiff, Nat.reduceLT, Int.reduceLE, Int.reduceLT, Int.reduceAdd, Int.reduceSub, Int.reduceNeg, Int.reduceToNat, Int.reduceEq, ↓reduceIte, reduceCtorEq, s_rfind_eq, s_rhas_eq, s_rlay_eq, s_rimm_eq, g3, nf, ez, q0, q1, q2, q3, q4, q5]; repeat (simp (disch := omega) only [w64_d, ipos, ineg, dpos, dneg]; try simp only [go_sem, List.reduceReplicate, Nat.reduceAdd, Nat.reduceMul, Nat.reduceSub, Nat.reduceBEq, Nat.reduceEqDiff, Nat.reduceLeDiff, Nat.reduceLT, Int.reduceLE, Int.reduceLT, Int.reduceAdd, Int.reduceSub, Int.reduceNeg, Int.reduceToNat, Int.reduceEq, ↓reduceIte, reduceCtorEq, s_rfind_eq, s_rhas_eq, s_rlay_eq, s_rimm_eq, g3, nf, ez, q0, q1, q2, q3, q4, q5]))
      by_cases h_r2 : r2 = 0
      subst h_r2
      by_cases h_im : im = 0
      subst h_im
      cases aq
      cases rl
      by_cases l_rd : rd < 0
      rotate_left
      by_cases u_rd : 31 < rd
      rotate_left
      by_cases l_r1 : r1 < 0
      rotate_left
      by_cases u_r1 : 31 < r1
      rotate_left
      by_cases l_cs : cs < 0
      rotate_left
      by_cases u_cs : 4095 < cs
      rotate_left
      all_goals (try simp only [go_sem, List.reduceReplicate, Nat.reduceAdd, Nat.reduceMul, Nat.reduceSub, Nat.reduceBEq, Nat.reduceEqDiff, Nat.reduceLeDiff, Nat.reduceLT, Int.reduceLE, Int.reduceLT, Int.reduceAdd, Int.reduceSub, Int.reduceNeg, Int.reduceToNat, Int.reduceEq, ↓reduceIte, reduceCtorEq, s_rfind_eq, s_rhas_eq, s_rlay_eq, s_rimm_eq, *]; repeat (simp (disch := omega) only [w64_d, ipos, ineg, dpos, dneg]; try simp only [go_sem, List.reduceReplicate, Nat.reduceAdd, Nat.reduceMul, Nat.reduceSub, Nat.reduceBEq, Nat.reduceEqDiff, Nat.reduceLeDiff, Nat.reduceLT, Int.reduceLE, Int.reduceLT, Int.reduceAdd, Int.reduceSub, Int.reduceNeg, Int.reduceToNat, Int.reduceEq, ↓reduceIte, reduceCtorEq, s_rfind_eq, s_rhas_eq, s_rlay_eq, s_rimm_eq, *]))
      all_goals simp [*]
    · simp at h
  · simp at h
set_option maxHeartbeats 16000000 in
def s_rchk10 (args : List AV) : Option AV :=
  match args with
  | [.g [.i op, .i rd, .i r1, .i r2, .i im, .i cs, .b aq, .b rl]] => if fmtT op = 10 then some (.c (.i (checkT 10 rd r1 r2 im cs aq rl))) else none
  | _ => none
theorem s_rchk10_eq {op rd r1 r2 im cs aq rl} : s_rchk10 [.g [.i op, .i rd, .i r1, .i r2, .i im, .i cs, .b aq, .b rl]] = if fmtT op = 10 then some (.c (.i (checkT 10 rd r1 r2 im cs aq rl))) else none := rfl
set_option maxRecDepth 100000 in
set_option maxHeartbeats 2000000 in
theorem ok_rchk10 : PuOk Try.prog 14 s_rchk10 := by
  refine pu_ok (tab := [(20, .pu s_rfind), (28, .pu s_rhas), (19, .pu s_rlay), (17, .pu s_rimm)]) hmix (TabOk.cons (e := .pu s_rfind) ok_rfind (TabOk.cons (e := .pu s_rhas) ok_rhas (TabOk.cons (e := .pu s_rlay) ok_rlay (TabOk.cons (e := .pu s_rimm) ok_rimm TabOk.nil)))) Try.func14 rfl Try.results14 Try.ntmps14 (by kernel_rfl) (by kernel_rfl) ?_
  intro args v h
  unfold s_rchk10 at h
  split at h
  · rename_i op rd r1 r2 im cs aq rl
    split at h
    · rename_i hc
      simp only [Option.some.injEq] at h; subst h
      refine ⟨by simp only [List.length_cons, List.length_nil]; decide, rfl, rfl, ?_⟩
      obtain ⟨g, g1, g2, p, g3, _⟩ := rowT_eq op
      obtain rfl : g = 10 := by omega
      have nf := nmF_fn g1
      have ez : (fn 10 = (⟨#[]⟩ : ByteArray)) = False := eq_false (by decide)
      have q0 : hasT 10 100 = true := by decide
      have q1 : hasT 10 49 = true := by decide
      have q2 : hasT 10 50 = false := by decide
      have q3 : hasT 10 105 = false := by decide
      have q4 : hasT 10 99 = true := by decide
      have q5 : hasT 10 113 = false := by decide
      have e : checkT 10 rd r1 r2 im cs aq rl = if ¬ r2 = 0 ∨ ¬ im = 0 ∨ aq = true ∨ rl = true then 2 else if rd < 0 ∨ 31 < rd ∨ r1 < 0 ∨ 31 < r1 ∨ r2 < 0 ∨ 31 < r2 ∨ cs < 0 ∨ 4095 < cs ∨ fitsT 10 im = false then 3 else 0 := by
        rw [chk_form (by decide)]
        simp [formB, fdT]
      rw [e]
      clear e
      have bk := back_no (f := 10) rfl
      unfold backB at bk
      have ft : fitsT 10 im = true := rfl
      rw [ft]
      (try simp only [go_sem, List.reduceReplicate, Nat.reduceAdd, Nat.reduceMul, Nat.reduceSub, Nat.reduceBEq, Nat.reduceEqDiff, Nat.reduceLeDiff, Nat.reduceLT, Int.reduceLE, Int.reduceLT, Int.reduceAdd, Int.reduceSub, Int.reduceNeg, Int.reduceToNat, Int.reduceEq, ↓reduceIte, reduceCtorEq, s_rfind_eq, s_rhas_eq, s_rlay_eq, s_rimm_eq, g3, nf, ez, q0, q1, q2, q3, q4, q5]; repeat (simp (disch := omega) only [w64_d, ipos, ineg, dpos, dneg]; try simp only [go_sem, List.reduceReplicate, Nat.reduceAdd, Nat.reduceMul, Nat.reduceSub, Nat.reduceBEq, Nat.reduceEqDiff, Nat.reduceLeDiff, Nat.reduceLT, Int.reduceLE, Int.reduceLT, Int.reduceAdd, Int.reduceSub, Int.reduceNeg, Int.reduceToNat, Int.reduceEq, ↓reduceIte, reduceCtorEq, s_rfind_eq, s_rhas_eq, s_rlay_eq, s_rimm_eq, g3, nf, ez, q0, q1, q2, q3, q4, q5]))
      by_cases h_r2 : r2 = 0
      subst h_r2
      by_cases h_im : im = 0
      subst h_im
      cases aq
      cases rl
      by_cases l_rd : rd < 0
      rotate_left
      by_cases u_rd : 31 < rd
      rotate_left
      by_cases l_r1 : r1 < 0
      rotate_left
      by_cases u_r1 : 31 < r1
      rotate_left
      by_cases l_cs : cs < 0
      rotate_left
      by_cases u_cs : 4095 < cs
      rotate_left
      all_goals (try simp only [go_sem, List.reduceReplicate, Nat.reduceAdd, Nat.reduceMul, Nat.reduceSub, Nat.reduceBEq, Nat.reduceEqDiff, Nat.reduceLeDiff, Nat.reduceLT, Int.reduceLE, Int.reduceLT, Int.reduceAdd, Int.reduceSub, Int.reduceNeg, Int.reduceToNat, Int.reduceEq, ↓reduceIte, reduceCtorEq, s_rfind_eq, s_rhas_eq, s_rlay_eq, s_rimm_eq, *]; repeat (simp (disch := omega) only [w64_d, ipos, ineg, dpos, dneg]; try simp only [go_sem, List.reduceReplicate, Nat.reduceAdd, Nat.reduceMul, Nat.reduceSub, Nat.reduceBEq, Nat.reduceEqDiff, Nat.reduceLeDiff, Nat.reduceLT, Int.reduceLE, Int.reduceLT, Int.reduceAdd, Int.reduceSub, Int.reduceNeg, Int.reduceToNat, Int.reduceEq, ↓reduceIte, reduceCtorEq, s_rfind_eq, s_rhas_eq, s_rlay_eq, s_rimm_eq, *]))
      all_goals simp [*]
    · simp at h
  · simp at h
set_option maxHeartbeats 16000000 in
def s_rchk11 (args : List AV) : Option AV :=
  match args with
  | [.g [.i op, .i rd, .i r1, .i r2, .i im, .i cs, .b aq, .b rl]] => if fmtT op = 11 then some (.c (.i (checkT 11 rd r1 r2 im cs aq rl))) else none
  | _ => none
theorem s_rchk11_eq {op rd r1 r2 im cs aq rl} : s_rchk11 [.g [.i op, .i rd, .i r1, .i r2, .i im, .i cs, .b aq, .b rl]] = if fmtT op = 11 then some (.c (.i (checkT 11 rd r1 r2 im cs aq rl))) else none := rfl
set_option maxRecDepth 100000 in
set_option maxHeartbeats 2000000 in
theorem ok_rchk11 : PuOk Try.prog 14 s_rchk11 := by
  refine pu_ok (tab := [(20, .pu s_rfind), (28, .pu s_rhas), (19, .pu s_rlay), (17, .pu s_rimm)]) hmix (TabOk.cons (e := .pu s_rfind) ok_rfind (TabOk.cons (e := .pu s_rhas) ok_rhas (TabOk.cons (e := .pu s_rlay) ok_rlay (TabOk.cons (e := .pu s_rimm) ok_rimm TabOk.nil)))) Try.func14 rfl Try.results14 Try.ntmps14 (by kernel_rfl) (by kernel_rfl) ?_
  intro args v h
  unfold s_rchk11 at h
  split at h
  · rename_i op rd r1 r2 im cs aq rl
    split at h
    · rename_i hc
      simp only [Option.some.injEq] at h; subst h
      refine ⟨by simp only [List.length_cons, List.length_nil]; decide, rfl, rfl, ?_⟩
      obtain ⟨g, g1, g2, p, g3, _⟩ := rowT_eq op
      obtain rfl : g = 11 := by omega
      have nf := nmF_fn g1
      have ez : (fn 11 = (⟨#[]⟩ : ByteArray)) = False := eq_false (by decide)
      have q0 : hasT 11 100 = true := by decide
      have q1 : hasT 11 49 = true := by decide
      have q2 : hasT 11 50 = true := by decide
      have q3 : hasT 11 105 = false := by decide
      have q4 : hasT 11 99 = false := by decide
      have q5 : hasT 11 113 = true := by decide
      have e : checkT 11 rd r1 r2 im cs aq rl = if ¬ im = 0 ∨ ¬ cs = 0 then 2 else if rd < 0 ∨ 31 < rd ∨ r1 < 0 ∨ 31 < r1 ∨ r2 < 0 ∨ 31 < r2 ∨ cs < 0 ∨ 4095 < cs ∨ fitsT 11 im = false then 3 else 0 := by
        rw [chk_form (by decide)]
        simp [formB, fdT]
      rw [e]
      clear e
      have bk := back_no (f := 11) rfl
      unfold backB at bk
      have ft : fitsT 11 im = true := rfl
      rw [ft]
      (try simp only [go_sem, List.reduceReplicate, Nat.reduceAdd, Nat.reduceMul, Nat.reduceSub, Nat.reduceBEq, Nat.reduceEqDiff, Nat.reduceLeDiff, Nat.reduceLT, Int.reduceLE, Int.reduceLT, Int.reduceAdd, Int.reduceSub, Int.reduceNeg, Int.reduceToNat, Int.reduceEq, ↓reduceIte, reduceCtorEq, s_rfind_eq, s_rhas_eq, s_rlay_eq, s_rimm_eq, g3, nf, ez, q0, q1, q2, q3, q4, q5]; repeat (simp (disch := omega) only [w64_d, ipos, ineg, dpos, dneg]; try simp only [go_sem, List.reduceReplicate, Nat.reduceAdd, Nat.reduceMul, Nat.reduceSub, Nat.reduceBEq, Nat.reduceEqDiff, Nat.reduceLeDiff, Nat.reduceLT, Int.reduceLE, Int.reduceLT, Int.reduceAdd, Int.reduceSub, Int.reduceNeg, Int.reduceToNat, Int.reduceEq, ↓reduceIte, reduceCtorEq, s_rfind_eq, s_rhas_eq, s_rlay_eq, s_rimm_eq, g3, nf, ez, q0, q1, q2, q3, q4, q5]))
      by_cases h_im : im = 0
      subst h_im
      by_cases h_cs : cs = 0
      subst h_cs
      by_cases l_rd : rd < 0
      rotate_left
      by_cases u_rd : 31 < rd
      rotate_left
      by_cases l_r1 : r1 < 0
      rotate_left
      by_cases u_r1 : 31 < r1
      rotate_left
      by_cases l_r2 : r2 < 0
      rotate_left
      by_cases u_r2 : 31 < r2
      rotate_left
      all_goals (try simp only [go_sem, List.reduceReplicate, Nat.reduceAdd, Nat.reduceMul, Nat.reduceSub, Nat.reduceBEq, Nat.reduceEqDiff, Nat.reduceLeDiff, Nat.reduceLT, Int.reduceLE, Int.reduceLT, Int.reduceAdd, Int.reduceSub, Int.reduceNeg, Int.reduceToNat, Int.reduceEq, ↓reduceIte, reduceCtorEq, s_rfind_eq, s_rhas_eq, s_rlay_eq, s_rimm_eq, *]; repeat (simp (disch := omega) only [w64_d, ipos, ineg, dpos, dneg]; try simp only [go_sem, List.reduceReplicate, Nat.reduceAdd, Nat.reduceMul, Nat.reduceSub, Nat.reduceBEq, Nat.reduceEqDiff, Nat.reduceLeDiff, Nat.reduceLT, Int.reduceLE, Int.reduceLT, Int.reduceAdd, Int.reduceSub, Int.reduceNeg, Int.reduceToNat, Int.reduceEq, ↓reduceIte, reduceCtorEq, s_rfind_eq, s_rhas_eq, s_rlay_eq, s_rimm_eq, *]))
      all_goals simp [*]
    · simp at h
  · simp at h
set_option maxHeartbeats 16000000 in
def s_rchk12 (args : List AV) : Option AV :=
  match args with
  | [.g [.i op, .i rd, .i r1, .i r2, .i im, .i cs, .b aq, .b rl]] => if fmtT op = 12 then some (.c (.i (checkT 12 rd r1 r2 im cs aq rl))) else none
  | _ => none
theorem s_rchk12_eq {op rd r1 r2 im cs aq rl} : s_rchk12 [.g [.i op, .i rd, .i r1, .i r2, .i im, .i cs, .b aq, .b rl]] = if fmtT op = 12 then some (.c (.i (checkT 12 rd r1 r2 im cs aq rl))) else none := rfl
set_option maxRecDepth 100000 in
set_option maxHeartbeats 2000000 in
theorem ok_rchk12 : PuOk Try.prog 14 s_rchk12 := by
  refine pu_ok (tab := [(20, .pu s_rfind), (28, .pu s_rhas), (19, .pu s_rlay), (17, .pu s_rimm)]) hmix (TabOk.cons (e := .pu s_rfind) ok_rfind (TabOk.cons (e := .pu s_rhas) ok_rhas (TabOk.cons (e := .pu s_rlay) ok_rlay (TabOk.cons (e := .pu s_rimm) ok_rimm TabOk.nil)))) Try.func14 rfl Try.results14 Try.ntmps14 (by kernel_rfl) (by kernel_rfl) ?_
  intro args v h
  unfold s_rchk12 at h
  split at h
  · rename_i op rd r1 r2 im cs aq rl
    split at h
    · rename_i hc
      simp only [Option.some.injEq] at h; subst h
      refine ⟨by simp only [List.length_cons, List.length_nil]; decide, rfl, rfl, ?_⟩
      obtain ⟨g, g1, g2, p, g3, _⟩ := rowT_eq op
      obtain rfl : g = 12 := by omega
      have nf := nmF_fn g1
      have ez : (fn 12 = (⟨#[]⟩ : ByteArray)) = False := eq_false (by decide)
      have q0 : hasT 12 100 = true := by decide
      have q1 : hasT 12 49 = true := by decide
      have q2 : hasT 12 50 = false := by decide
      have q3 : hasT 12 105 = false := by decide
      have q4 : hasT 12 99 = false := by decide
      have q5 : hasT 12 113 = true := by decide
      have e : checkT 12 rd r1 r2 im cs aq rl = if ¬ r2 = 0 ∨ ¬ im = 0 ∨ ¬ cs = 0 then 2 else if rd < 0 ∨ 31 < rd ∨ r1 < 0 ∨ 31 < r1 ∨ r2 < 0 ∨ 31 < r2 ∨ cs < 0 ∨ 4095 < cs ∨ fitsT 12 im = false then 3 else 0 := by
        rw [chk_form (by decide)]
        simp [formB, fdT]
      rw [e]
      clear e
      have bk := back_no (f := 12) rfl
      unfold backB at bk
      have ft : fitsT 12 im = true := rfl
      rw [ft]
      (try simp only [go_sem, List.reduceReplicate, Nat.reduceAdd, Nat.reduceMul, Nat.reduceSub, Nat.reduceBEq, Nat.reduceEqDiff, Nat.reduceLeDiff, Nat.reduceLT, Int.reduceLE, Int.reduceLT, Int.reduceAdd, Int.reduceSub, Int.reduceNeg, Int.reduceToNat, Int.reduceEq, ↓reduceIte, reduceCtorEq, s_rfind_eq, s_rhas_eq, s_rlay_eq, s_rimm_eq, g3, nf, ez, q0, q1, q2, q3, q4, q5]; repeat (simp (disch := omega) only [w64_d, ipos, ineg, dpos, dneg]; try simp only [go_sem, List.reduceReplicate, Nat.reduceAdd, Nat.reduceMul, Nat.reduceSub, Nat.reduceBEq, Nat.reduceEqDiff, Nat.reduceLeDiff, Nat.reduceLT, Int.reduceLE, Int.reduceLT, Int.reduceAdd, Int.reduceSub, Int.reduceNeg, Int.reduceToNat, Int.reduceEq, ↓reduceIte, reduceCtorEq, s_rfind_eq, s_rhas_eq, s_rlay_eq, s_rimm_eq, g3, nf, ez, q0, q1, q2, q3, q4, q5]))
      by_cases h_r2 : r2 = 0
      subst h_r2
      by_cases h_im : im = 0
      subst h_im
      by_cases h_cs : cs = 0
      subst h_cs
      by_cases l_rd : rd < 0
      rotate_left
      by_cases u_rd : 31 < rd
      rotate_left
      by_cases l_r1 : r1 < 0
      rotate_left
      by_cases u_r1 : 31 < r1
      rotate_left
      all_goals (try simp only [go_sem, List.reduceReplicate, Nat.reduceAdd, Nat.reduceMul, Nat.reduceSub, Nat.reduceBEq, Nat.reduceEqDiff, Nat.reduceLeDiff, Nat.reduceLT, Int.reduceLE, Int.reduceLT, Int.reduceAdd, Int.reduceSub, Int.reduceNeg, Int.reduceToNat, Int.reduceEq, ↓reduceIte, reduceCtorEq, s_rfind_eq, s_rhas_eq, s_rlay_eq, s_rimm_eq, *]; repeat (simp (disch := omega) only [w64_d, ipos, ineg, dpos, dneg]; try simp only [go_sem, List.reduceReplicate, Nat.reduceAdd, Nat.reduceMul, Nat.reduceSub, Nat.reduceBEq, Nat.reduceEqDiff, Nat.reduceLeDiff, Nat.reduceLT, Int.reduceLE, Int.reduceLT, Int.reduceAdd, Int.reduceSub, Int.reduceNeg, Int.reduceToNat, Int.reduceEq, ↓reduceIte, reduceCtorEq, s_rfind_eq, s_rhas_eq, s_rlay_eq, s_rimm_eq, *]))
      all_goals simp [*]
    · simp at h
  · simp at h
set_option maxHeartbeats 16000000 in
def s_rchk13 (args : List AV) : Option AV :=
  match args with
  | [.g [.i op, .i rd, .i r1, .i r2, .i im, .i cs, .b aq, .b rl]] => if fmtT op = 13 then some (.c (.i (checkT 13 rd r1 r2 im cs aq rl))) else none
  | _ => none
theorem s_rchk13_eq {op rd r1 r2 im cs aq rl} : s_rchk13 [.g [.i op, .i rd, .i r1, .i r2, .i im, .i cs, .b aq, .b rl]] = if fmtT op = 13 then some (.c (.i (checkT 13 rd r1 r2 im cs aq rl))) else none := rfl
set_option maxRecDepth 100000 in
set_option maxHeartbeats 2000000 in
theorem ok_rchk13 : PuOk Try.prog 14 s_rchk13 := by
  refine pu_ok (tab := [(20, .pu s_rfind), (28, .pu s_rhas), (19, .pu s_rlay), (17, .pu s_rimm)]) hmix (TabOk.cons (e := .pu s_rfind) ok_rfind (TabOk.cons (e := .pu s_rhas) ok_rhas (TabOk.cons (e := .pu s_rlay) ok_rlay (TabOk.cons (e := .pu s_rimm) ok_rimm TabOk.nil)))) Try.func14 rfl Try.results14 Try.ntmps14 (by kernel_rfl) (by kernel_rfl) ?_
  intro args v h
  unfold s_rchk13 at h
  split at h
  · rename_i op rd r1 r2 im cs aq rl
    split at h
    · rename_i hc
      simp only [Option.some.injEq] at h; subst h
      refine ⟨by simp only [List.length_cons, List.length_nil]; decide, rfl, rfl, ?_⟩
      obtain ⟨g, g1, g2, p, g3, _⟩ := rowT_eq op
      obtain rfl : g = 13 := by omega
      have nf := nmF_fn g1
      have ez : (fn 13 = (⟨#[]⟩ : ByteArray)) = False := eq_false (by decide)
      have q0 : hasT 13 100 = false := by decide
      have q1 : hasT 13 49 = false := by decide
      have q2 : hasT 13 50 = false := by decide
      have q3 : hasT 13 105 = false := by decide
      have q4 : hasT 13 99 = false := by decide
      have q5 : hasT 13 113 = false := by decide
      have e : checkT 13 rd r1 r2 im cs aq rl = if ¬ rd = 0 ∨ ¬ r1 = 0 ∨ ¬ r2 = 0 ∨ ¬ im = 0 ∨ ¬ cs = 0 ∨ aq = true ∨ rl = true then 2 else if rd < 0 ∨ 31 < rd ∨ r1 < 0 ∨ 31 < r1 ∨ r2 < 0 ∨ 31 < r2 ∨ cs < 0 ∨ 4095 < cs ∨ fitsT 13 im = false then 3 else 0 := by
        rw [chk_form (by decide)]
        simp [formB, fdT]
      rw [e]
      clear e
      have bk := back_no (f := 13) rfl
      unfold backB at bk
      have ft : fitsT 13 im = true := rfl
      rw [ft]
      (try simp only [go_sem, List.reduceReplicate, Nat.reduceAdd, Nat.reduceMul, Nat.reduceSub, Nat.reduceBEq, Nat.reduceEqDiff, Nat.reduceLeDiff, Nat.reduceLT, Int.reduceLE, Int.reduceLT, Int.reduceAdd, Int.reduceSub, Int.reduceNeg, Int.reduceToNat, Int.reduceEq, ↓reduceIte, reduceCtorEq, s_rfind_eq, s_rhas_eq, s_rlay_eq, s_rimm_eq, g3, nf, ez, q0, q1, q2, q3, q4, q5]; repeat (simp (disch := omega) only [w64_d, ipos, ineg, dpos, dneg]; try simp only [go_sem, List.reduceReplicate, Nat.reduceAdd, Nat.reduceMul, Nat.reduceSub, Nat.reduceBEq, Nat.reduceEqDiff, Nat.reduceLeDiff, Nat.reduceLT, Int.reduceLE, Int.reduceLT, Int.reduceAdd, Int.reduceSub, Int.reduceNeg, Int.reduceToNat, Int.reduceEq, ↓reduceIte, reduceCtorEq, s_rfind_eq, s_rhas_eq, s_rlay_eq, s_rimm_eq, g3, nf, ez, q0, q1, q2, q3, q4, q5]))
      by_cases h_rd : rd = 0
      subst h_rd
      by_cases h_r1 : r1 = 0
      subst h_r1
      by_cases h_r2 : r2 = 0
      subst h_r2
      by_cases h_im : im = 0
      subst h_im
      by_cases h_cs : cs = 0
      subst h_cs
      cases aq
      cases rl
      all_goals (try simp only [go_sem, List.reduceReplicate, Nat.reduceAdd, Nat.reduceMul, Nat.reduceSub, Nat.reduceBEq, Nat.reduceEqDiff, Nat.reduceLeDiff, Nat.reduceLT, Int.reduceLE, Int.reduceLT, Int.reduceAdd, Int.reduceSub, Int.reduceNeg, Int.reduceToNat, Int.reduceEq, ↓reduceIte, reduceCtorEq, s_rfind_eq, s_rhas_eq, s_rlay_eq, s_rimm_eq, *]; repeat (simp (disch := omega) only [w64_d, ipos, ineg, dpos, dneg]; try simp only [go_sem, List.reduceReplicate, Nat.reduceAdd, Nat.reduceMul, Nat.reduceSub, Nat.reduceBEq, Nat.reduceEqDiff, Nat.reduceLeDiff, Nat.reduceLT, Int.reduceLE, Int.reduceLT, Int.reduceAdd, Int.reduceSub, Int.reduceNeg, Int.reduceToNat, Int.reduceEq, ↓reduceIte, reduceCtorEq, s_rfind_eq, s_rhas_eq, s_rlay_eq, s_rimm_eq, *]))
      all_goals simp [*]
    · simp at h
  · simp at h
set_option maxHeartbeats 16000000 in
def s_rchk14 (args : List AV) : Option AV :=
  match args with
  | [.g [.i op, .i rd, .i r1, .i r2, .i im, .i cs, .b aq, .b rl]] => if fmtT op = 14 then some (.c (.i (checkT 14 rd r1 r2 im cs aq rl))) else none
  | _ => none
theorem s_rchk14_eq {op rd r1 r2 im cs aq rl} : s_rchk14 [.g [.i op, .i rd, .i r1, .i r2, .i im, .i cs, .b aq, .b rl]] = if fmtT op = 14 then some (.c (.i (checkT 14 rd r1 r2 im cs aq rl))) else none := rfl
set_option maxRecDepth 100000 in
set_option maxHeartbeats 2000000 in
theorem ok_rchk14 : PuOk Try.prog 14 s_rchk14 := by
  refine pu_ok (tab := [(20, .pu s_rfind), (28, .pu s_rhas), (19, .pu s_rlay), (17, .pu s_rimm)]) hmix (TabOk.cons (e := .pu s_rfind) ok_rfind (TabOk.cons (e := .pu s_rhas) ok_rhas (TabOk.cons (e := .pu s_rlay) ok_rlay (TabOk.cons (e := .pu s_rimm) ok_rimm TabOk.nil)))) Try.func14 rfl Try.results14 Try.ntmps14 (by kernel_rfl) (by kernel_rfl) ?_
  intro args v h
  unfold s_rchk14 at h
  split at h
  · rename_i op rd r1 r2 im cs aq rl
    split at h
    · rename_i hc
      simp only [Option.some.injEq] at h; subst h
      refine ⟨by simp only [List.length_cons, List.length_nil]; decide, rfl, rfl, ?_⟩
      obtain ⟨g, g1, g2, p, g3, _⟩ := rowT_eq op
      obtain rfl : g = 14 := by omega
      have nf := nmF_fn g1
      have ez : (fn 14 = (⟨#[]⟩ : ByteArray)) = False := eq_false (by decide)
      have q0 : hasT 14 100 = false := by decide
      have q1 : hasT 14 49 = true := by decide
      have q2 : hasT 14 50 = true := by decide
      have q3 : hasT 14 105 = false := by decide
      have q4 : hasT 14 99 = false := by decide
      have q5 : hasT 14 113 = false := by decide
      have e : checkT 14 rd r1 r2 im cs aq rl = if ¬ rd = 0 ∨ ¬ im = 0 ∨ ¬ cs = 0 ∨ aq = true ∨ rl = true then 2 else if rd < 0 ∨ 31 < rd ∨ r1 < 0 ∨ 31 < r1 ∨ r2 < 0 ∨ 31 < r2 ∨ cs < 0 ∨ 4095 < cs ∨ fitsT 14 im = false then 3 else 0 := by
        rw [chk_form (by decide)]
        simp [formB, fdT]
      rw [e]
      clear e
      have bk := back_no (f := 14) rfl
      unfold backB at bk
      have ft : fitsT 14 im = true := rfl
      rw [ft]
      (try simp only [go_sem, List.reduceReplicate, Nat.reduceAdd, Nat.reduceMul, Nat.reduceSub, Nat.reduceBEq, Nat.reduceEqDiff, Nat.reduceLeDiff, Nat.reduceLT, Int.reduceLE, Int.reduceLT, Int.reduceAdd, Int.reduceSub, Int.reduceNeg, Int.reduceToNat, Int.reduceEq, ↓reduceIte, reduceCtorEq, s_rfind_eq, s_rhas_eq, s_rlay_eq, s_rimm_eq, g3, nf, ez, q0, q1, q2, q3, q4, q5]; repeat (simp (disch := omega) only [w64_d, ipos, ineg, dpos, dneg]; try simp only [go_sem, List.reduceReplicate, Nat.reduceAdd, Nat.reduceMul, Nat.reduceSub, Nat.reduceBEq, Nat.reduceEqDiff, Nat.reduceLeDiff, Nat.reduceLT, Int.reduceLE, Int.reduceLT, Int.reduceAdd, Int.reduceSub, Int.reduceNeg, Int.reduceToNat, Int.reduceEq, ↓reduceIte, reduceCtorEq, s_rfind_eq, s_rhas_eq, s_rlay_eq, s_rimm_eq, g3, nf, ez, q0, q1, q2, q3, q4, q5]))
      by_cases h_rd : rd = 0
      subst h_rd
      by_cases h_im : im = 0
      subst h_im
      by_cases h_cs : cs = 0
      subst h_cs
      cases aq
      cases rl
      by_cases l_r1 : r1 < 0
      rotate_left
      by_cases u_r1 : 31 < r1
      rotate_left
      by_cases l_r2 : r2 < 0
      rotate_left
      by_cases u_r2 : 31 < r2
      rotate_left
      all_goals (try simp only [go_sem, List.reduceReplicate, Nat.reduceAdd, Nat.reduceMul, Nat.reduceSub, Nat.reduceBEq, Nat.reduceEqDiff, Nat.reduceLeDiff, Nat.reduceLT, Int.reduceLE, Int.reduceLT, Int.reduceAdd, Int.reduceSub, Int.reduceNeg, Int.reduceToNat, Int.reduceEq, ↓reduceIte, reduceCtorEq, s_rfind_eq, s_rhas_eq, s_rlay_eq, s_rimm_eq, *]; repeat (simp (disch := omega) only [w64_d, ipos, ineg, dpos, dneg]; try simp only [go_sem, List.reduceReplicate, Nat.reduceAdd, Nat.reduceMul, Nat.reduceSub, Nat.reduceBEq, Nat.reduceEqDiff, Nat.reduceLeDiff, Nat.reduceLT, Int.reduceLE, Int.reduceLT, Int.reduceAdd, Int.reduceSub, Int.reduceNeg, Int.reduceToNat, Int.reduceEq, ↓reduceIte, reduceCtorEq, s_rfind_eq, s_rhas_eq, s_rlay_eq, s_rimm_eq, *]))
      all_goals simp [*]
    · simp at h
  · simp at h
end
end Go.Proofs.Ytcfnfdafcfpohaa
