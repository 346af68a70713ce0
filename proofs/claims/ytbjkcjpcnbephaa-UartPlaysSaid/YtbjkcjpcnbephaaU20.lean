/- Layer 17: a deed is done to both: contract. -/
import Derived.Test.YtbjkcjpcnbephaaU19
namespace Go.Proofs.Ytbjkcjpcnbephaa
open Go.Am
set_option linter.unusedSimpArgs false
set_option linter.unusedVariables false
noncomputable section

/-- both ports stand, apart from each other -/
structure DoOk (H : AH) (id : Nat) (t : Pt) (x y u v : Sc) : Prop where
  pi : PI H id t x y
  rp : RpOk H t u v
  bu : u.bel H.length = true
  bv : v.bel H.length = true
  su : ∀ i, sid u = some i → i ≠ id ∧ sid x ≠ some i ∧ sid y ≠ some i
  sv : ∀ i, sid v = some i → i ≠ id ∧ sid x ≠ some i ∧ sid y ≠ some i
def zr : List Sc := rpC pt0 .nils .nils
def doF (id : Nat) (c : List Sc) (kd : Int) (off : BitVec 64) (b : Int) (H : AH) : Option (AV × AH) :=
  if kd = 0 then
    match s_uread [.c (.p id 0 0), .c (.u off)] (H ++ [.own c, .own [.i kd, .u off, .k .u8 b], .own zr]) with
    | some (.t [.c (.k .u8 v), .c (.b q)], K) =>
      match s_rread [.g c, .c (.u off)] K with
      | some (.t [.g c', .c (.i v'), .c (.b q')], K2) => some (.t [.g c', .c (.b (decide (v = v') && (q == q')))], (K2 ++ [AObj.own c']).set (H.length + 2) (.own c'))
      | _ => none
    | _ => none
  else if kd = 1 then
    match s_rwrite [.g c, .c (.u off), .c (.i b)] (H ++ [.own c, .own [.i kd, .u off, .k .u8 b], .own zr]) with
    | some (.t [.g c', .c (.b q')], K) =>
      match s_uwrite [.c (.p id 0 0), .c (.u off), .c (.k .u8 b)] (K ++ [AObj.own c']) with
      | some (.c (.b q), K2) => some (.t [.g c', .c (.b (q == q'))], K2.set (H.length + 2) (.own c'))
      | _ => none
    | _ => none
  else
    match s_rinput [.g c, .c (.i b)] (H ++ [.own c, .own [.i kd, .u off, .k .u8 b], .own zr]) with
    | some (.t [.g c', .c (.b q')], K) =>
      match s_uinput [.c (.p id 0 0), .c (.k .u8 b)] (K ++ [AObj.own c']) with
      | some (.c (.b q), K2) => some (.t [.g c', .c (.b (q == q'))], K2.set (H.length + 2) (.own c'))
      | _ => none
    | _ => none
open Classical in
def s_do (args : List AV) (H : AH) : Option (AV × AH) :=
  match args with
  | [.c (.p id 0 0), .g c, .g [.i kd, .u off, .k .u8 b]] =>
    if (∃ t x y u v, c = rpC t u v ∧ DoOk H id t x y u v ∧ t.A.length ≤ 1000000 ∧ t.B.length ≤ 1000000 ∧ by8 b) then doF id c kd off b H else none
  | _ => none
theorem len_do (args : List AV) (H : AH) (v : AV) (H1 : AH) (h : s_do args H = some (v, H1)) : H.length ≤ H1.length := by
  unfold s_do at h
  split at h
  · split at h
    · unfold doF at h
      repeat' split at h
      all_goals simp at h
      all_goals rw [← h.2]
      · have a := len_uread _ _ _ _ ‹s_uread _ _ = some (_, _)›
        have b := len_rread _ _ _ _ ‹s_rread _ _ = some (_, _)›
        simp at a b ⊢; omega
      · have a := len_rwrite _ _ _ _ ‹s_rwrite _ _ = some (_, _)›
        have b := len_uwrite _ _ _ _ ‹s_uwrite _ _ = some (_, _)›
        simp at a b ⊢; omega
      · have a := len_rinput _ _ _ _ ‹s_rinput _ _ = some (_, _)›
        have b := len_uinput _ _ _ _ ‹s_uinput _ _ = some (_, _)›
        simp at a b ⊢; omega
    · simp at h
  · simp at h
set_option maxHeartbeats 8000000 in
set_option maxRecDepth 100000 in
set_option maxHeartbeats 2000000 in
theorem ok_do : FpOk Try.prog 18 s_do := by
  refine fp_ok (s := s_do) (tab := [(10, .fp s_uread), (8, .fp s_uwrite), (9, .fp s_uinput), (32, .fp s_rread), (33, .fp s_rwrite), (34, .fp s_rinput)]) hmix (TabOk.cons (e := .fp s_uread) ok_uread (TabOk.cons (e := .fp s_uwrite) ok_uwrite (TabOk.cons (e := .fp s_uinput) ok_uinput (TabOk.cons (e := .fp s_rread) ok_rread (TabOk.cons (e := .fp s_rwrite) ok_rwrite (TabOk.cons (e := .fp s_rinput) ok_rinput TabOk.nil)))))) Try.func18 rfl Try.results18 Try.ntmps18 (by kernel_rfl) (by kernel_rfl) len_do ?_
  intro args H v H1 h hargs hH
  unfold s_do at h
  split at h
  · rename_i id c kd off b
    split at h
    · rename_i hex
      obtain ⟨t, x, y, u, w, rfl, ok, la, lb, hb⟩ := hex
      refine ⟨by simp only [List.length_cons, List.length_nil]; decide, ?_⟩
      have lid := ok.pi.lt
      have rb : 0 ≤ b ∧ b ≤ 255 := hb
      have zrc : zr = [.i 0, .i 0, .i 0, .i 0, .i 0, .i 0, .b false, .b false, .b false, .nils, .nils] := rfl
      have g0 : ∀ X, hg (H ++ (.own (rpC t u w) :: .own [.i kd, .u off, .k .u8 b] :: .own zr :: X)) H.length = .own (rpC t u w) := fun X => by simp [hg, List.getD_eq_getElem?_getD]
      have g1 : ∀ X, hg (H ++ (.own (rpC t u w) :: .own [.i kd, .u off, .k .u8 b] :: .own zr :: X)) (H.length + 1) = .own [.i kd, .u off, .k .u8 b] := fun X => by simp [hg, List.getD_eq_getElem?_getD]
      have g2 : ∀ X, hg (H ++ (.own (rpC t u w) :: .own [.i kd, .u off, .k .u8 b] :: .own zr :: X)) (H.length + 2) = .own zr := fun X => by simp [hg, List.getD_eq_getElem?_getD]
      have lx : ∀ i, sid x = some i → i < H.length := fun i hi => (bsx_lt ok.pi.hx hi).1
      have ly : ∀ i, sid y = some i → i < H.length := fun i hi => (bsx_lt ok.pi.hy hi).1
      by_cases k0 : kd = 0
      · subst k0
        have P0 := pi_app (X := [.own (rpC t u w), .own [.i 0, .u off, .k .u8 b], .own zr]) ok.pi
        obtain ⟨K, x1, e1, P1, kp⟩ := read_ok P0 off la
        have ll : H.length + 3 ≤ K.length := by have := kp.len; simp at this; exact this
        have kk : ∀ i, i < H.length + 3 → i ≠ id → sid x ≠ some i → sid y ≠ some i → hg K i = hg (H ++ [.own (rpC t u w), .own [.i 0, .u off, .k .u8 b], .own zr]) i := fun i h1 h2 h3 h4 => kp.keep i (by simp; omega) h2 h3 h4
        have n0 : ∀ j, H.length ≤ j → j ≠ id ∧ sid x ≠ some j ∧ sid y ≠ some j := fun j hj => ⟨by omega, fun e => by have := lx j e; omega, fun e => by have := ly j e; omega⟩
        have K0 : hg K H.length = .own (rpC t u w) := by rw [kk _ (by omega) (n0 _ (by omega)).1 (n0 _ (by omega)).2.1 (n0 _ (by omega)).2.2]; exact g0 []
        have K1 : hg K (H.length + 1) = .own [.i 0, .u off, .k .u8 b] := by rw [kk _ (by omega) (n0 _ (by omega)).1 (n0 _ (by omega)).2.1 (n0 _ (by omega)).2.2]; exact g1 []
        have K2 : hg K (H.length + 2) = .own zr := by rw [kk _ (by omega) (n0 _ (by omega)).1 (n0 _ (by omega)).2.1 (n0 _ (by omega)).2.2]; exact g2 []
        have uu : ∀ s, s.bel H.length = true → (∀ i, sid s = some i → i ≠ id ∧ sid x ≠ some i ∧ sid y ≠ some i) → ∀ A, slD 1 dc8 H s = some A → slD 1 dc8 K s = some A := fun s hs hd A hA => slD_kp hA fun i hi => by
          have li : i < H.length := by
            rcases sl_shape hA with rfl | ⟨j, v, n, rfl⟩
            · simp [sid] at hi
            · simp only [sid, Option.some.injEq] at hi; subst hi; simpa [Sc.bel] using hs
          obtain ⟨d1, d2, d3⟩ := hd i hi
          rw [kk i (by omega) d1 d2 d3, hg_app li]
        have okK : RpOk K t u w := ⟨uu u ok.bu ok.su _ ok.rp.hx, uu w ok.bv ok.sv _ ok.rp.hy, ok.rp.e, ok.rp.l, ok.rp.m, ok.rp.s, ok.rp.dl, ok.rp.dm, la, lb⟩
        obtain ⟨u', X, e2, _, hu', hB'⟩ := rread_ok okK (Sc.bel_mono ok.bu (by omega)) off
        have hsx : ∀ o Y, (K ++ Y).set (H.length + 2) o = K.set (H.length + 2) o ++ Y := fun o Y => List.set_append_left _ _ (by omega)
        have gg0 : ∀ Y, hg (K ++ Y) H.length = .own (rpC t u w) := fun Y => by rw [hg_app (by omega)]; exact K0
        have gg1 : ∀ Y, hg (K ++ Y) (H.length + 1) = .own [.i 0, .u off, .k .u8 b] := fun Y => by rw [hg_app (by omega)]; exact K1
        have gg2 : ∀ Y, hg (K ++ Y) (H.length + 2) = .own zr := fun Y => by rw [hg_app (by omega)]; exact K2
        have ggs : ∀ o Y, hg (K.set (H.length + 2) o ++ Y) (H.length + 2) = o := fun o Y => by rw [hg_app (by rw [List.length_set]; omega)]; exact hg_set_same (by omega)
        unfold doF at h
        rw [if_pos rfl, e1] at h
        simp only [e2] at h
        simp only [Option.some.injEq, Prod.mk.injEq, List.append_assoc, hsx, decide_true, beq_self_eq_true, Bool.and_self] at h
        obtain ⟨rfl, rfl⟩ := h
        rcases sl_shape ok.rp.hx with rfl | ⟨i3, v3, n3, rfl⟩ <;> rcases sl_shape ok.rp.hy with rfl | ⟨i4, v4, n4, rfl⟩ <;> rcases sl_shape hu' with rfl | ⟨i5, v5, n5, rfl⟩
        all_goals simp only [rpC, zrc] at e1 e2 K0 K1 K2 gg0 gg1 gg2
        all_goals generalize (readP t off).2.1 = val at *
        all_goals generalize (readP t off).2.2 = qv at *
        all_goals (try simp (config := { maxSteps := 10000000 }) only [go_sem, List.reduceReplicate, BitVec.reduceOfInt, BitVec.reduceToNat, BitVec.reduceToInt, BitVec.reduceEq, BitVec.reduceLT, BitVec.reduceLE, BitVec.reduceAdd, BitVec.reduceSub, BitVec.reduceMul, BitVec.reduceUDiv, BitVec.reduceUMod, BitVec.reduceAnd, BitVec.reduceOr, BitVec.reduceXOr, BitVec.reduceNot, BitVec.reduceNeg, BitVec.reduceHShiftLeft, BitVec.reduceHShiftRight, Nat.reduceAdd, Nat.reduceMul, Nat.reduceSub, Nat.reduceBEq, Nat.reduceEqDiff, Nat.reduceLeDiff, Nat.reduceLT, Int.reduceLE, Int.reduceLT, Int.reduceAdd, Int.reduceSub, Int.reduceMul, Int.reduceNeg, Int.reduceToNat, Int.reduceEq, ↓reduceIte, reduceCtorEq, rpC, zrc, e1, e2, K0, K1, K2, gg0, gg1, gg2, hsx, ggs]; repeat (simp (disch := omega) only [w64_d, ipos, ineg, dpos, dneg]; try simp (config := { maxSteps := 10000000 }) only [go_sem, List.reduceReplicate, BitVec.reduceOfInt, BitVec.reduceToNat, BitVec.reduceToInt, BitVec.reduceEq, BitVec.reduceLT, BitVec.reduceLE, BitVec.reduceAdd, BitVec.reduceSub, BitVec.reduceMul, BitVec.reduceUDiv, BitVec.reduceUMod, BitVec.reduceAnd, BitVec.reduceOr, BitVec.reduceXOr, BitVec.reduceNot, BitVec.reduceNeg, BitVec.reduceHShiftLeft, BitVec.reduceHShiftRight, Nat.reduceAdd, Nat.reduceMul, Nat.reduceSub, Nat.reduceBEq, Nat.reduceEqDiff, Nat.reduceLeDiff, Nat.reduceLT, Int.reduceLE, Int.reduceLT, Int.reduceAdd, Int.reduceSub, Int.reduceMul, Int.reduceNeg, Int.reduceToNat, Int.reduceEq, ↓reduceIte, reduceCtorEq, rpC, zrc, e1, e2, K0, K1, K2, gg0, gg1, gg2, hsx, ggs]))
        all_goals first | exact fin_same
      have P0 := fun X => pi_app (X := X) ok.pi
      have ok0 := fun X => rp_app (X := X) ok.rp ok.bu ok.bv
      have n0 : ∀ j, H.length ≤ j → j ≠ id ∧ sid x ≠ some j ∧ sid y ≠ some j := fun j hj => ⟨by omega, fun e => by have := lx j e; omega, fun e => by have := ly j e; omega⟩
      by_cases k1 : kd = 1
      · subst k1
        obtain ⟨u', w', X, e1, _, _, hu', hw', _⟩ := rwrite_ok (ok0 [.own (rpC t u w), .own [.i 1, .u off, .k .u8 b], .own zr]) (Sc.bel_mono ok.bu (by simp)) (Sc.bel_mono ok.bv (by simp)) off hb
        obtain ⟨K, x1, y1, e2, P1, kp⟩ := write_ok (P0 (.own (rpC t u w) :: .own [.i 1, .u off, .k .u8 b] :: .own zr :: (X ++ [.own (rpC (writeP t off b).1 u' w')]))) off b la lb
        generalize hA : H ++ (.own (rpC t u w) :: .own [.i 1, .u off, .k .u8 b] :: .own zr :: (X ++ [.own (rpC (writeP t off b).1 u' w')])) = A at *
        have lA : A.length = H.length + (X.length + 4) := by rw [← hA]; simp <;> omega
        have ll : A.length ≤ K.length := kp.len
        have kk : ∀ i, H.length ≤ i → i < A.length → hg K i = hg A i := fun i h1 h2 => kp.keep i h2 (n0 i h1).1 (n0 i h1).2.1 (n0 i h1).2.2
        have K1 : hg K (H.length + 1) = .own [.i 1, .u off, .k .u8 b] := by rw [kk _ (by omega) (by omega), ← hA]; exact g1 _
        have K2 : hg K (H.length + 2) = .own zr := by rw [kk _ (by omega) (by omega), ← hA]; exact g2 _
        have K3 : hg K (H.length + (X.length + 1 + 1 + 1)) = .own (rpC (writeP t off b).1 u' w') := by
          rw [kk _ (by omega) (by omega), ← hA]
          simp [hg, List.getD_eq_getElem?_getD]
        have K4 : ∀ o, hg (K.set (H.length + 2) o) (H.length + 2) = o := fun o => hg_set_same (by omega)
        subst hA
        unfold doF at h
        rw [if_neg (by decide), if_pos rfl, e1] at h
        simp only [List.append_assoc, List.cons_append, List.nil_append, e2] at h
        simp only [Option.some.injEq, Prod.mk.injEq, beq_self_eq_true] at h
        obtain ⟨rfl, rfl⟩ := h
        simp only [List.append_assoc, List.cons_append, List.nil_append] at e1
        rcases sl_shape ok.rp.hx with rfl | ⟨i3, v3, n3, rfl⟩ <;> rcases sl_shape ok.rp.hy with rfl | ⟨i4, v4, n4, rfl⟩ <;> rcases sl_shape hu' with rfl | ⟨i5, v5, n5, rfl⟩ <;> rcases sl_shape hw' with rfl | ⟨i6, v6, n6, rfl⟩
        all_goals simp only [rpC, zrc] at e1 e2 K1 K2 K3
        all_goals generalize (writeP t off b).2 = qv at *
        all_goals (try simp (config := { maxSteps := 10000000 }) only [go_sem, List.reduceReplicate, BitVec.reduceOfInt, BitVec.reduceToNat, BitVec.reduceToInt, BitVec.reduceEq, BitVec.reduceLT, BitVec.reduceLE, BitVec.reduceAdd, BitVec.reduceSub, BitVec.reduceMul, BitVec.reduceUDiv, BitVec.reduceUMod, BitVec.reduceAnd, BitVec.reduceOr, BitVec.reduceXOr, BitVec.reduceNot, BitVec.reduceNeg, BitVec.reduceHShiftLeft, BitVec.reduceHShiftRight, Nat.reduceAdd, Nat.reduceMul, Nat.reduceSub, Nat.reduceBEq, Nat.reduceEqDiff, Nat.reduceLeDiff, Nat.reduceLT, Int.reduceLE, Int.reduceLT, Int.reduceAdd, Int.reduceSub, Int.reduceMul, Int.reduceNeg, Int.reduceToNat, Int.reduceEq, ↓reduceIte, reduceCtorEq, rpC, zrc, e1, e2, K1, K2, K3, K4]; repeat (simp (disch := omega) only [w64_d, ipos, ineg, dpos, dneg]; try simp (config := { maxSteps := 10000000 }) only [go_sem, List.reduceReplicate, BitVec.reduceOfInt, BitVec.reduceToNat, BitVec.reduceToInt, BitVec.reduceEq, BitVec.reduceLT, BitVec.reduceLE, BitVec.reduceAdd, BitVec.reduceSub, BitVec.reduceMul, BitVec.reduceUDiv, BitVec.reduceUMod, BitVec.reduceAnd, BitVec.reduceOr, BitVec.reduceXOr, BitVec.reduceNot, BitVec.reduceNeg, BitVec.reduceHShiftLeft, BitVec.reduceHShiftRight, Nat.reduceAdd, Nat.reduceMul, Nat.reduceSub, Nat.reduceBEq, Nat.reduceEqDiff, Nat.reduceLeDiff, Nat.reduceLT, Int.reduceLE, Int.reduceLT, Int.reduceAdd, Int.reduceSub, Int.reduceMul, Int.reduceNeg, Int.reduceToNat, Int.reduceEq, ↓reduceIte, reduceCtorEq, rpC, zrc, e1, e2, K1, K2, K3, K4]))
        all_goals (repeat' apply And.intro) <;> first | exact fin_same | kernel_rfl | (intro e; omega) | (intro _; kernel_rfl)
      · obtain ⟨u', X, e1, _, hu', _⟩ := rinput_ok (ok0 [.own (rpC t u w), .own [.i kd, .u off, .k .u8 b], .own zr]) (Sc.bel_mono ok.bu (by simp)) (Sc.bel_mono ok.bv (by simp)) hb
        obtain ⟨K, x1, e2, P1, kp⟩ := input_ok (P0 (.own (rpC t u w) :: .own [.i kd, .u off, .k .u8 b] :: .own zr :: (X ++ [.own (rpC (inputP t b).1 u' w)]))) b la
        generalize hA : H ++ (.own (rpC t u w) :: .own [.i kd, .u off, .k .u8 b] :: .own zr :: (X ++ [.own (rpC (inputP t b).1 u' w)])) = A at *
        have lA : A.length = H.length + (X.length + 4) := by rw [← hA]; simp <;> omega
        have ll : A.length ≤ K.length := kp.len
        have kk : ∀ i, H.length ≤ i → i < A.length → hg K i = hg A i := fun i h1 h2 => kp.keep i h2 (n0 i h1).1 (n0 i h1).2.1 (n0 i h1).2.2
        have K1 : hg K (H.length + 1) = .own [.i kd, .u off, .k .u8 b] := by rw [kk _ (by omega) (by omega), ← hA]; exact g1 _
        have K2 : hg K (H.length + 2) = .own zr := by rw [kk _ (by omega) (by omega), ← hA]; exact g2 _
        have K3 : hg K (H.length + (X.length + 1 + 1 + 1)) = .own (rpC (inputP t b).1 u' w) := by
          rw [kk _ (by omega) (by omega), ← hA]
          simp [hg, List.getD_eq_getElem?_getD]
        have K4 : ∀ o, hg (K.set (H.length + 2) o) (H.length + 2) = o := fun o => hg_set_same (by omega)
        subst hA
        unfold doF at h
        rw [if_neg k0, if_neg k1, e1] at h
        simp only [List.append_assoc, List.cons_append, List.nil_append, e2] at h
        simp only [Option.some.injEq, Prod.mk.injEq, beq_self_eq_true] at h
        obtain ⟨rfl, rfl⟩ := h
        simp only [List.append_assoc, List.cons_append, List.nil_append] at e1
        rcases sl_shape ok.rp.hx with rfl | ⟨i3, v3, n3, rfl⟩ <;> rcases sl_shape ok.rp.hy with rfl | ⟨i4, v4, n4, rfl⟩ <;> rcases sl_shape hu' with rfl | ⟨i5, v5, n5, rfl⟩
        all_goals simp only [rpC, zrc] at e1 e2 K1 K2 K3
        all_goals generalize (inputP t b).2 = qv at *
        all_goals (try simp (config := { maxSteps := 10000000 }) only [go_sem, List.reduceReplicate, BitVec.reduceOfInt, BitVec.reduceToNat, BitVec.reduceToInt, BitVec.reduceEq, BitVec.reduceLT, BitVec.reduceLE, BitVec.reduceAdd, BitVec.reduceSub, BitVec.reduceMul, BitVec.reduceUDiv, BitVec.reduceUMod, BitVec.reduceAnd, BitVec.reduceOr, BitVec.reduceXOr, BitVec.reduceNot, BitVec.reduceNeg, BitVec.reduceHShiftLeft, BitVec.reduceHShiftRight, Nat.reduceAdd, Nat.reduceMul, Nat.reduceSub, Nat.reduceBEq, Nat.reduceEqDiff, Nat.reduceLeDiff, Nat.reduceLT, Int.reduceLE, Int.reduceLT, Int.reduceAdd, Int.reduceSub, Int.reduceMul, Int.reduceNeg, Int.reduceToNat, Int.reduceEq, ↓reduceIte, reduceCtorEq, rpC, zrc, e1, e2, K1, K2, K3, K4, k0, k1]; repeat (simp (disch := omega) only [w64_d, ipos, ineg, dpos, dneg]; try simp (config := { maxSteps := 10000000 }) only [go_sem, List.reduceReplicate, BitVec.reduceOfInt, BitVec.reduceToNat, BitVec.reduceToInt, BitVec.reduceEq, BitVec.reduceLT, BitVec.reduceLE, BitVec.reduceAdd, BitVec.reduceSub, BitVec.reduceMul, BitVec.reduceUDiv, BitVec.reduceUMod, BitVec.reduceAnd, BitVec.reduceOr, BitVec.reduceXOr, BitVec.reduceNot, BitVec.reduceNeg, BitVec.reduceHShiftLeft, BitVec.reduceHShiftRight, Nat.reduceAdd, Nat.reduceMul, Nat.reduceSub, Nat.reduceBEq, Nat.reduceEqDiff, Nat.reduceLeDiff, Nat.reduceLT, Int.reduceLE, Int.reduceLT, Int.reduceAdd, Int.reduceSub, Int.reduceMul, Int.reduceNeg, Int.reduceToNat, Int.reduceEq, ↓reduceIte, reduceCtorEq, rpC, zrc, e1, e2, K1, K2, K3, K4, k0, k1]))
        all_goals (repeat' apply And.intro) <;> first | exact fin_same | kernel_rfl | (intro e; omega) | (intro _; kernel_rfl)
    · simp at h
  · simp at h
end
end Go.Proofs.Ytbjkcjpcnbephaa
