/- Layer 31: the document's lines of an ask: contract. -/
import Derived.Test.YtamjmjllgmachaaE9
namespace Go.Proofs.Ytamjmjllgmachaa
open Go.Am
set_option linter.unusedSimpArgs false
set_option linter.unusedVariables false
noncomputable section

def linB (B : Int → BitVec 64) (k : Nat) : List (BitVec 64) := (List.range k).map fun j : Nat => B j / 64#64
def setB (B : Int → BitVec 64) (k : Nat) : List (BitVec 64) := (linB B k).foldl (insS ltU) []
theorem setB_succ {B : Int → BitVec 64} {k : Nat} : setB B (k + 1) = insS ltU (setB B k) (B k / 64#64) := by
  unfold setB linB; rw [List.range_succ, List.map_append, List.foldl_append]; rfl
theorem insSU_len {L : List (BitVec 64)} {s : BitVec 64} : (insS ltU L s).length ≤ L.length + 1 := by
  unfold insS; split
  · omega
  · have := insP_le (lt := ltU) (s := s) (L := L); simp; omega
theorem setB_le {B : Int → BitVec 64} : ∀ {k : Nat}, (setB B k).length ≤ k
  | 0 => by simp [setB, linB]
  | k + 1 => by
    have ih := setB_le (B := B) (k := k)
    rw [setB_succ]
    have := insSU_len (L := setB B k) (s := B k / 64#64); omega
theorem insPU_get {s : BitVec 64} {L : List (BitVec 64)} {i : Nat} {y : BitVec 64} (h : i < insP ltU s L) (hy : L[i]? = some y) : y < s := by
  have := tw_get (p := fun y => ltU y s) h hy; simpa [ltU] using this
theorem insPU_end {s : BitVec 64} {L : List (BitVec 64)} {y : BitVec 64} (hy : L[insP ltU s L]? = some y) : ¬ y < s := by
  have := tw_end (p := fun y => ltU y s) hy; simpa [ltU] using this
def s_rlines (args : List AV) (H : AH) : Option (AV × AH) :=
  match args with
  | [.g (.i k :: .u a :: .u b :: .i c :: .i s :: r)] =>
    if isR r then
      if isL k c s = true then some (.c (.sl H.length 0 (setB (byteU a b c) s.toNat).length (setB (byteU a b c) s.toNat).length), H ++ [.vec 1 ((setB (byteU a b c) s.toNat).map gU)])
      else some (.c .nils, H)
    else none
  | _ => none
theorem s_rlines_eq {k : Int} {a b : BitVec 64} {c s : Int} {r : List Sc} {H : AH} (h : isR r) : s_rlines [.g (.i k :: .u a :: .u b :: .i c :: .i s :: r)] H = if isL k c s = true then some (.c (.sl H.length 0 (setB (byteU a b c) s.toNat).length (setB (byteU a b c) s.toNat).length), H ++ [.vec 1 ((setB (byteU a b c) s.toNat).map gU)]) else some (.c .nils, H) := by simp only [s_rlines, h, if_true]
theorem len_rlines (args : List AV) (H : AH) (v : AV) (H1 : AH) (h : s_rlines args H = some (v, H1)) : H.length ≤ H1.length := by
  unfold s_rlines at h
  repeat' split at h
  all_goals simp at h
  all_goals rw [← h.2]
  all_goals simp
set_option maxHeartbeats 8000000 in
set_option maxRecDepth 100000 in
set_option maxHeartbeats 2000000 in
theorem ok_rlines : FpOk Try.prog 22 s_rlines := by
  refine fp_ok (s := s_rlines) (tab := [(20, .pu s_rgroup31), (34, .pu s_r14access), (35, .pu s_rsmay), (36, .pu s_rbyte)]) hmix (TabOk.cons (e := .pu s_rgroup31) ok_rgroup31 (TabOk.cons (e := .pu s_r14access) ok_r14access (TabOk.cons (e := .pu s_rsmay) ok_rsmay (TabOk.cons (e := .pu s_rbyte) ok_rbyte TabOk.nil)))) Try.func22 rfl Try.results22 Try.ntmps22 (by kernel_rfl) (by kernel_rfl) len_rlines ?_
  intro args H v H1 h hargs hH
  unfold s_rlines at h
  split at h
  · rename_i kk a b c s r
    split at h
    · rename_i hr
      obtain ⟨lr, pr⟩ := hr
      have br : ∀ n, r.all (Sc.bel n) = true := fun n => pf_bel n pr
      have rt : r.take 14 = r := List.take_of_length_le (by omega)
      by_cases hg : groupI kk = 1
      · cases hm : smB c s
        · have hL : isL kk c s = false := by simp [isL, hm]
          rw [hL] at h
          simp only [Bool.false_eq_true, if_false, Option.some.injEq, Prod.mk.injEq] at h
          obtain ⟨rfl, rfl⟩ := h
          refine ⟨by simp only [List.length_cons, List.length_nil]; decide, ?_⟩
          (try simp (config := { maxSteps := 10000000 }) only [go_sem, List.reduceReplicate, BitVec.reduceOfInt, BitVec.reduceToNat, BitVec.reduceToInt, BitVec.reduceEq, BitVec.reduceLT, BitVec.reduceLE, BitVec.reduceAdd, BitVec.reduceSub, BitVec.reduceMul, BitVec.reduceUDiv, BitVec.reduceUMod, BitVec.reduceAnd, BitVec.reduceOr, BitVec.reduceXOr, BitVec.reduceNot, BitVec.reduceNeg, BitVec.reduceHShiftLeft, BitVec.reduceHShiftRight, Nat.reduceAdd, Nat.reduceMul, Nat.reduceSub, Nat.reduceBEq, Nat.reduceEqDiff, Nat.reduceLeDiff, Nat.reduceLT, Int.reduceLE, Int.reduceLT, Int.reduceAdd, Int.reduceSub, Int.reduceMul, Int.reduceNeg, Int.reduceToNat, Int.reduceEq, ↓reduceIte, reduceCtorEq, s_rgroup31_eq, s_r14access_eq, s_rsmay_eq, s_rbyte_eq, hm, hg, lr, pr, rt]; repeat (simp (disch := omega) only [w64_d, ipos, ineg, dpos, dneg]; try simp (config := { maxSteps := 10000000 }) only [go_sem, List.reduceReplicate, BitVec.reduceOfInt, BitVec.reduceToNat, BitVec.reduceToInt, BitVec.reduceEq, BitVec.reduceLT, BitVec.reduceLE, BitVec.reduceAdd, BitVec.reduceSub, BitVec.reduceMul, BitVec.reduceUDiv, BitVec.reduceUMod, BitVec.reduceAnd, BitVec.reduceOr, BitVec.reduceXOr, BitVec.reduceNot, BitVec.reduceNeg, BitVec.reduceHShiftLeft, BitVec.reduceHShiftRight, Nat.reduceAdd, Nat.reduceMul, Nat.reduceSub, Nat.reduceBEq, Nat.reduceEqDiff, Nat.reduceLeDiff, Nat.reduceLT, Int.reduceLE, Int.reduceLT, Int.reduceAdd, Int.reduceSub, Int.reduceMul, Int.reduceNeg, Int.reduceToNat, Int.reduceEq, ↓reduceIte, reduceCtorEq, s_rgroup31_eq, s_r14access_eq, s_rsmay_eq, s_rbyte_eq, hm, hg, lr, pr, rt]))
          exact fin_fp rfl (subH_app _ _) hH (Nat.le_refl _)
        · have hL : isL kk c s = true := by simp [isL, hm, hg]
          rw [hL] at h
          simp only [if_true, Option.some.injEq, Prod.mk.injEq] at h
          obtain ⟨rfl, rfl⟩ := h
          refine ⟨by simp only [List.length_cons, List.length_nil]; decide, ?_⟩
          have hs : 1 ≤ s ∧ s ≤ 8 ∧ 0 ≤ c ∧ c < s := by simpa [smB] using hm
          have bb : ∀ L : List (BitVec 64), belH (H ++ [.dead, .own [.u a, .u b, .i c, .i s], .vec 1 (L.map gU)]) = true := fun L => belH_app hH (by simp only [List.mem_cons, List.not_mem_nil, or_false, forall_eq_or_imp, forall_eq]; exact ⟨rfl, rfl, map_bel gU_num _ _⟩)
          (try simp (config := { maxSteps := 10000000 }) only [go_sem, List.reduceReplicate, BitVec.reduceOfInt, BitVec.reduceToNat, BitVec.reduceToInt, BitVec.reduceEq, BitVec.reduceLT, BitVec.reduceLE, BitVec.reduceAdd, BitVec.reduceSub, BitVec.reduceMul, BitVec.reduceUDiv, BitVec.reduceUMod, BitVec.reduceAnd, BitVec.reduceOr, BitVec.reduceXOr, BitVec.reduceNot, BitVec.reduceNeg, BitVec.reduceHShiftLeft, BitVec.reduceHShiftRight, Nat.reduceAdd, Nat.reduceMul, Nat.reduceSub, Nat.reduceBEq, Nat.reduceEqDiff, Nat.reduceLeDiff, Nat.reduceLT, Int.reduceLE, Int.reduceLT, Int.reduceAdd, Int.reduceSub, Int.reduceMul, Int.reduceNeg, Int.reduceToNat, Int.reduceEq, ↓reduceIte, reduceCtorEq, s_rgroup31_eq, s_r14access_eq, s_rsmay_eq, s_rbyte_eq, hm, hg, lr, pr, rt]; repeat (simp (disch := omega) only [w64_d, ipos, ineg, dpos, dneg]; try simp (config := { maxSteps := 10000000 }) only [go_sem, List.reduceReplicate, BitVec.reduceOfInt, BitVec.reduceToNat, BitVec.reduceToInt, BitVec.reduceEq, BitVec.reduceLT, BitVec.reduceLE, BitVec.reduceAdd, BitVec.reduceSub, BitVec.reduceMul, BitVec.reduceUDiv, BitVec.reduceUMod, BitVec.reduceAnd, BitVec.reduceOr, BitVec.reduceXOr, BitVec.reduceNot, BitVec.reduceNeg, BitVec.reduceHShiftLeft, BitVec.reduceHShiftRight, Nat.reduceAdd, Nat.reduceMul, Nat.reduceSub, Nat.reduceBEq, Nat.reduceEqDiff, Nat.reduceLeDiff, Nat.reduceLT, Int.reduceLE, Int.reduceLT, Int.reduceAdd, Int.reduceSub, Int.reduceMul, Int.reduceNeg, Int.reduceToNat, Int.reduceEq, ↓reduceIte, reduceCtorEq, s_rgroup31_eq, s_r14access_eq, s_rsmay_eq, s_rbyte_eq, hm, hg, lr, pr, rt]))
          refine arun_for s.toNat (fun k => ([(3, .c (.sl (H.length + 2) 0 (setB (byteU a b c) k).length (setB (byteU a b c) k).length)), (4, .c (.p (H.length + 1) 0 0)), (5, .c (.i k))], H ++ [.dead, .own [.u a, .u b, .i c, .i s], .vec 1 ((setB (byteU a b c) k).map gU)])) ?_ fun k hk => ?_
          · exact Wk.trans (Wk.nil 3 1 (by decide) rfl (by simp [lo])) (Wk.wk (by simp [lo]) (by simp [Am.get, setB, linB]) (by simp [AV.bel, Sc.bel]) (by rw [List.append_assoc]; exact subH_pre _ ⟨.inl rfl, .inr rfl, .inr rfl, trivial⟩) (bb _))
          · have ll := @setB_le (byteU a b c) k
            by_cases hlt : k < s.toNat
            · have e1 : w64 ((k : Int) + 1) = ((k + 1 : Nat) : Int) := by rw [w64_d (by omega) (by omega)]; omega
              have e0 : (k : Int) < s := by omega
              have hc3 : 0 ≤ c ∧ c ≤ 8 ∧ 0 ≤ (k : Int) ∧ (k : Int) ≤ 8 := by omega
              have sS := setB_succ (B := byteU a b c) (k := k)
              generalize hL : setB (byteU a b c) k = L at *
              generalize hx : byteU a b c k / 64#64 = x at *
              (try simp (config := { maxSteps := 10000000 }) only [go_sem, List.reduceReplicate, BitVec.reduceOfInt, BitVec.reduceToNat, BitVec.reduceToInt, BitVec.reduceEq, BitVec.reduceLT, BitVec.reduceLE, BitVec.reduceAdd, BitVec.reduceSub, BitVec.reduceMul, BitVec.reduceUDiv, BitVec.reduceUMod, BitVec.reduceAnd, BitVec.reduceOr, BitVec.reduceXOr, BitVec.reduceNot, BitVec.reduceNeg, BitVec.reduceHShiftLeft, BitVec.reduceHShiftRight, Nat.reduceAdd, Nat.reduceMul, Nat.reduceSub, Nat.reduceBEq, Nat.reduceEqDiff, Nat.reduceLeDiff, Nat.reduceLT, Int.reduceLE, Int.reduceLT, Int.reduceAdd, Int.reduceSub, Int.reduceMul, Int.reduceNeg, Int.reduceToNat, Int.reduceEq, ↓reduceIte, reduceCtorEq, s_rgroup31_eq, s_r14access_eq, s_rsmay_eq, s_rbyte_eq, e0, hc3, hx]; repeat (simp (disch := omega) only [w64_d, ipos, ineg, dpos, dneg]; try simp (config := { maxSteps := 10000000 }) only [go_sem, List.reduceReplicate, BitVec.reduceOfInt, BitVec.reduceToNat, BitVec.reduceToInt, BitVec.reduceEq, BitVec.reduceLT, BitVec.reduceLE, BitVec.reduceAdd, BitVec.reduceSub, BitVec.reduceMul, BitVec.reduceUDiv, BitVec.reduceUMod, BitVec.reduceAnd, BitVec.reduceOr, BitVec.reduceXOr, BitVec.reduceNot, BitVec.reduceNeg, BitVec.reduceHShiftLeft, BitVec.reduceHShiftRight, Nat.reduceAdd, Nat.reduceMul, Nat.reduceSub, Nat.reduceBEq, Nat.reduceEqDiff, Nat.reduceLeDiff, Nat.reduceLT, Int.reduceLE, Int.reduceLT, Int.reduceAdd, Int.reduceSub, Int.reduceMul, Int.reduceNeg, Int.reduceToNat, Int.reduceEq, ↓reduceIte, reduceCtorEq, s_rgroup31_eq, s_r14access_eq, s_rsmay_eq, s_rbyte_eq, e0, hc3, hx]))
              refine arun_for (insP ltU x L) (fun i => ([(3, .c (.sl (H.length + 2) 0 L.length L.length)), (4, .c (.p (H.length + 1) 0 0)), (5, .c (.i k)), (6, .c (.u x)), (7, .c (.i i))], H ++ [.dead, .own [.u a, .u b, .i c, .i s], .vec 1 (L.map gU)])) ?_ fun i hi => ?_
              · exact Wk.wk (by simp [lo]) (by simp [Am.get]) (by simp [AV.bel, Sc.bel]) (subH_pre _ ⟨.inl rfl, .inr rfl, .inr rfl, trivial⟩) (bb _)
              · have ip := insP_le (lt := ltU) (s := x) (L := L)
                have e2 : w64 ((i : Int) + 1) = ((i + 1 : Nat) : Int) := by rw [w64_d (by omega) (by omega)]; omega
                by_cases hi2 : i < insP ltU x L
                · obtain ⟨y, hy⟩ : ∃ y, L[i]? = some y := ⟨_, List.getElem?_eq_getElem (by omega)⟩
                  have yx := insPU_get hi2 hy
                  have c0 := map_getD (g := gU) hy
                  have q1 : (i : Int) < L.length := by omega
                  have q2 : (0 : Int) ≤ i := by omega
                  have q3 : i + 1 ≤ L.length := by omega
                  (try simp (config := { maxSteps := 10000000 }) only [go_sem, List.reduceReplicate, BitVec.reduceOfInt, BitVec.reduceToNat, BitVec.reduceToInt, BitVec.reduceEq, BitVec.reduceLT, BitVec.reduceLE, BitVec.reduceAdd, BitVec.reduceSub, BitVec.reduceMul, BitVec.reduceUDiv, BitVec.reduceUMod, BitVec.reduceAnd, BitVec.reduceOr, BitVec.reduceXOr, BitVec.reduceNot, BitVec.reduceNeg, BitVec.reduceHShiftLeft, BitVec.reduceHShiftRight, Nat.reduceAdd, Nat.reduceMul, Nat.reduceSub, Nat.reduceBEq, Nat.reduceEqDiff, Nat.reduceLeDiff, Nat.reduceLT, Int.reduceLE, Int.reduceLT, Int.reduceAdd, Int.reduceSub, Int.reduceMul, Int.reduceNeg, Int.reduceToNat, Int.reduceEq, ↓reduceIte, reduceCtorEq, q1, q2, q3, e2, c0, gU, yx, List.length_map]; repeat (simp (disch := omega) only [w64_d, ipos, ineg, dpos, dneg]; try simp (config := { maxSteps := 10000000 }) only [go_sem, List.reduceReplicate, BitVec.reduceOfInt, BitVec.reduceToNat, BitVec.reduceToInt, BitVec.reduceEq, BitVec.reduceLT, BitVec.reduceLE, BitVec.reduceAdd, BitVec.reduceSub, BitVec.reduceMul, BitVec.reduceUDiv, BitVec.reduceUMod, BitVec.reduceAnd, BitVec.reduceOr, BitVec.reduceXOr, BitVec.reduceNot, BitVec.reduceNeg, BitVec.reduceHShiftLeft, BitVec.reduceHShiftRight, Nat.reduceAdd, Nat.reduceMul, Nat.reduceSub, Nat.reduceBEq, Nat.reduceEqDiff, Nat.reduceLeDiff, Nat.reduceLT, Int.reduceLE, Int.reduceLT, Int.reduceAdd, Int.reduceSub, Int.reduceMul, Int.reduceNeg, Int.reduceToNat, Int.reduceEq, ↓reduceIte, reduceCtorEq, q1, q2, q3, e2, c0, gU, yx, List.length_map]))
                  exact ⟨i + 1, by omega, by omega, Wk.wk (by simp [lo]) (by simp [Am.get]) (by simp [AV.bel, Sc.bel]) (subH_refl _) (bb _)⟩
                · obtain rfl : i = insP ltU x L := by omega
                  have sS' : insS ltU L x = if L[insP ltU x L]? = some x then L else L.take (insP ltU x L) ++ x :: L.drop (insP ltU x L) := rfl
                  have pe := fun y => insPU_end (s := x) (L := L) (y := y)
                  generalize hP : insP ltU x L = P at *
                  have q2 : (0 : Int) ≤ (P : Int) := by omega
                  have q4 : (P : Int) ≤ L.length := by omega
                  have o1 : ((L.map gU).take P).all Sc.one = true := by rw [← List.map_take]; exact map_one gU_num _
                  have o2 : ((L.map gU).drop P).all Sc.one = true := by rw [← List.map_drop]; exact map_one gU_num _
                  have t1 : ((L.map gU).drop P).take (L.length - P) = (L.map gU).drop P := List.take_of_length_le (by simp)
                  have u1 : (P + (L.length - P) ≤ L.length) = True := eq_true (by omega)
                  have u2 : min P L.length = P := by omega
                  have u3 : P * 8 ≤ 1099511627776 := by omega
                  have u4 : (P + 1) * 8 ≤ 1099511627776 := by omega
                  have u5 : (P + 1 + (L.length - P)) * 8 ≤ 1099511627776 := by omega
                  rcases Nat.lt_or_ge P L.length with hPl | hPl
                  · obtain ⟨y, hy⟩ : ∃ y, L[P]? = some y := ⟨_, List.getElem?_eq_getElem hPl⟩
                    have yx := pe y hy
                    have c0 := map_getD (g := gU) hy
                    have q1 : (P : Int) < L.length := by omega
                    have q3 : P + 1 ≤ L.length := by omega
                    by_cases hxy : y = x
                    · subst hxy
                      rw [if_pos hy] at sS'
                      (try simp (config := { maxSteps := 10000000 }) only [go_sem, List.reduceReplicate, BitVec.reduceOfInt, BitVec.reduceToNat, BitVec.reduceToInt, BitVec.reduceEq, BitVec.reduceLT, BitVec.reduceLE, BitVec.reduceAdd, BitVec.reduceSub, BitVec.reduceMul, BitVec.reduceUDiv, BitVec.reduceUMod, BitVec.reduceAnd, BitVec.reduceOr, BitVec.reduceXOr, BitVec.reduceNot, BitVec.reduceNeg, BitVec.reduceHShiftLeft, BitVec.reduceHShiftRight, Nat.reduceAdd, Nat.reduceMul, Nat.reduceSub, Nat.reduceBEq, Nat.reduceEqDiff, Nat.reduceLeDiff, Nat.reduceLT, Int.reduceLE, Int.reduceLT, Int.reduceAdd, Int.reduceSub, Int.reduceMul, Int.reduceNeg, Int.reduceToNat, Int.reduceEq, ↓reduceIte, reduceCtorEq, q1, q2, q3, c0, gU, yx, e1, List.length_map]; repeat (simp (disch := omega) only [w64_d, ipos, ineg, dpos, dneg]; try simp (config := { maxSteps := 10000000 }) only [go_sem, List.reduceReplicate, BitVec.reduceOfInt, BitVec.reduceToNat, BitVec.reduceToInt, BitVec.reduceEq, BitVec.reduceLT, BitVec.reduceLE, BitVec.reduceAdd, BitVec.reduceSub, BitVec.reduceMul, BitVec.reduceUDiv, BitVec.reduceUMod, BitVec.reduceAnd, BitVec.reduceOr, BitVec.reduceXOr, BitVec.reduceNot, BitVec.reduceNeg, BitVec.reduceHShiftLeft, BitVec.reduceHShiftRight, Nat.reduceAdd, Nat.reduceMul, Nat.reduceSub, Nat.reduceBEq, Nat.reduceEqDiff, Nat.reduceLeDiff, Nat.reduceLT, Int.reduceLE, Int.reduceLT, Int.reduceAdd, Int.reduceSub, Int.reduceMul, Int.reduceNeg, Int.reduceToNat, Int.reduceEq, ↓reduceIte, reduceCtorEq, q1, q2, q3, c0, gU, yx, e1, List.length_map]))
                      refine ⟨k + 1, by omega, by omega, ?_⟩
                      rw [sS, sS']
                      exact Wk.wk (by simp [lo]) (by simp [Am.get]) (by simp [AV.bel, Sc.bel]) (subH_refl _) (bb _)
                    · rw [if_neg (by rw [hy]; simpa using hxy)] at sS'
                      (try simp (config := { maxSteps := 10000000 }) only [go_sem, List.reduceReplicate, BitVec.reduceOfInt, BitVec.reduceToNat, BitVec.reduceToInt, BitVec.reduceEq, BitVec.reduceLT, BitVec.reduceLE, BitVec.reduceAdd, BitVec.reduceSub, BitVec.reduceMul, BitVec.reduceUDiv, BitVec.reduceUMod, BitVec.reduceAnd, BitVec.reduceOr, BitVec.reduceXOr, BitVec.reduceNot, BitVec.reduceNeg, BitVec.reduceHShiftLeft, BitVec.reduceHShiftRight, Nat.reduceAdd, Nat.reduceMul, Nat.reduceSub, Nat.reduceBEq, Nat.reduceEqDiff, Nat.reduceLeDiff, Nat.reduceLT, Int.reduceLE, Int.reduceLT, Int.reduceAdd, Int.reduceSub, Int.reduceMul, Int.reduceNeg, Int.reduceToNat, Int.reduceEq, ↓reduceIte, reduceCtorEq, q1, q2, q3, q4, c0, gU, yx, hxy, e1, List.length_map, o1, o2, t1, u1, u2, u3, u4, u5, List.length_take, List.length_drop, Int.toNat_natCast, Nat.sub_zero]; repeat (simp (disch := omega) only [w64_d, ipos, ineg, dpos, dneg]; try simp (config := { maxSteps := 10000000 }) only [go_sem, List.reduceReplicate, BitVec.reduceOfInt, BitVec.reduceToNat, BitVec.reduceToInt, BitVec.reduceEq, BitVec.reduceLT, BitVec.reduceLE, BitVec.reduceAdd, BitVec.reduceSub, BitVec.reduceMul, BitVec.reduceUDiv, BitVec.reduceUMod, BitVec.reduceAnd, BitVec.reduceOr, BitVec.reduceXOr, BitVec.reduceNot, BitVec.reduceNeg, BitVec.reduceHShiftLeft, BitVec.reduceHShiftRight, Nat.reduceAdd, Nat.reduceMul, Nat.reduceSub, Nat.reduceBEq, Nat.reduceEqDiff, Nat.reduceLeDiff, Nat.reduceLT, Int.reduceLE, Int.reduceLT, Int.reduceAdd, Int.reduceSub, Int.reduceMul, Int.reduceNeg, Int.reduceToNat, Int.reduceEq, ↓reduceIte, reduceCtorEq, q1, q2, q3, q4, c0, gU, yx, hxy, e1, List.length_map, o1, o2, t1, u1, u2, u3, u4, u5, List.length_take, List.length_drop, Int.toNat_natCast, Nat.sub_zero]))
                      have sl1 : (insS ltU L x).length = P + 1 + (L.length - P) := by rw [sS']; simp; omega
                      refine ⟨k + 1, by omega, by omega, ?_⟩
                      rw [sS, sl1]
                      exact Wk.tl [0, 1, 3] (Nat.le_refl _) hH (by decide) ⟨.inl rfl, .inr rfl, .inr ((ren_num (map_pf gU_num _)).trans (by rw [sS']; simp [Am.hg, gU])), trivial⟩ (by simp [Am.get, AV.ren, Sc.ren, tabR_k]) (by simp [AV.bel, Sc.bel])
                        (by simp only [List.all_cons, List.all_nil, Bool.and_true, Bool.and_eq_true]; exact ⟨rfl, rfl, map_bel gU_num _ _⟩)
                  · obtain rfl : P = L.length := by omega
                    rw [if_neg (by simp)] at sS'
                    (try simp (config := { maxSteps := 10000000 }) only [go_sem, List.reduceReplicate, BitVec.reduceOfInt, BitVec.reduceToNat, BitVec.reduceToInt, BitVec.reduceEq, BitVec.reduceLT, BitVec.reduceLE, BitVec.reduceAdd, BitVec.reduceSub, BitVec.reduceMul, BitVec.reduceUDiv, BitVec.reduceUMod, BitVec.reduceAnd, BitVec.reduceOr, BitVec.reduceXOr, BitVec.reduceNot, BitVec.reduceNeg, BitVec.reduceHShiftLeft, BitVec.reduceHShiftRight, Nat.reduceAdd, Nat.reduceMul, Nat.reduceSub, Nat.reduceBEq, Nat.reduceEqDiff, Nat.reduceLeDiff, Nat.reduceLT, Int.reduceLE, Int.reduceLT, Int.reduceAdd, Int.reduceSub, Int.reduceMul, Int.reduceNeg, Int.reduceToNat, Int.reduceEq, ↓reduceIte, reduceCtorEq, q2, q4, gU, e1, List.length_map, o1, o2, t1, u1, u2, u3, u4, u5, List.length_take, List.length_drop, Int.toNat_natCast, Nat.sub_zero, Nat.sub_self]; repeat (simp (disch := omega) only [w64_d, ipos, ineg, dpos, dneg]; try simp (config := { maxSteps := 10000000 }) only [go_sem, List.reduceReplicate, BitVec.reduceOfInt, BitVec.reduceToNat, BitVec.reduceToInt, BitVec.reduceEq, BitVec.reduceLT, BitVec.reduceLE, BitVec.reduceAdd, BitVec.reduceSub, BitVec.reduceMul, BitVec.reduceUDiv, BitVec.reduceUMod, BitVec.reduceAnd, BitVec.reduceOr, BitVec.reduceXOr, BitVec.reduceNot, BitVec.reduceNeg, BitVec.reduceHShiftLeft, BitVec.reduceHShiftRight, Nat.reduceAdd, Nat.reduceMul, Nat.reduceSub, Nat.reduceBEq, Nat.reduceEqDiff, Nat.reduceLeDiff, Nat.reduceLT, Int.reduceLE, Int.reduceLT, Int.reduceAdd, Int.reduceSub, Int.reduceMul, Int.reduceNeg, Int.reduceToNat, Int.reduceEq, ↓reduceIte, reduceCtorEq, q2, q4, gU, e1, List.length_map, o1, o2, t1, u1, u2, u3, u4, u5, List.length_take, List.length_drop, Int.toNat_natCast, Nat.sub_zero, Nat.sub_self]))
                    have sl1 : (insS ltU L x).length = L.length + 1 := by rw [sS']; simp
                    refine ⟨k + 1, by omega, by omega, ?_⟩
                    rw [sS, sl1]
                    exact Wk.tl [0, 1, 3] (Nat.le_refl _) hH (by decide) ⟨.inl rfl, .inr rfl, .inr ((ren_num (map_pf gU_num _)).trans (by rw [sS']; simp [Am.hg, gU]; rw [List.take_of_length_le (by simp)])), trivial⟩ (by simp [Am.get, AV.ren, Sc.ren, tabR_k]) (by simp [AV.bel, Sc.bel])
                      (by simp only [List.all_cons, List.all_nil, Bool.and_true, Bool.and_eq_true]; exact ⟨rfl, rfl, map_bel gU_num _ _⟩)
            · obtain rfl : k = s.toNat := by omega
              have e0 : ¬ ((s.toNat : Nat) : Int) < s := by omega
              (try simp (config := { maxSteps := 10000000 }) only [go_sem, List.reduceReplicate, BitVec.reduceOfInt, BitVec.reduceToNat, BitVec.reduceToInt, BitVec.reduceEq, BitVec.reduceLT, BitVec.reduceLE, BitVec.reduceAdd, BitVec.reduceSub, BitVec.reduceMul, BitVec.reduceUDiv, BitVec.reduceUMod, BitVec.reduceAnd, BitVec.reduceOr, BitVec.reduceXOr, BitVec.reduceNot, BitVec.reduceNeg, BitVec.reduceHShiftLeft, BitVec.reduceHShiftRight, Nat.reduceAdd, Nat.reduceMul, Nat.reduceSub, Nat.reduceBEq, Nat.reduceEqDiff, Nat.reduceLeDiff, Nat.reduceLT, Int.reduceLE, Int.reduceLT, Int.reduceAdd, Int.reduceSub, Int.reduceMul, Int.reduceNeg, Int.reduceToNat, Int.reduceEq, ↓reduceIte, reduceCtorEq, e0]; repeat (simp (disch := omega) only [w64_d, ipos, ineg, dpos, dneg]; try simp (config := { maxSteps := 10000000 }) only [go_sem, List.reduceReplicate, BitVec.reduceOfInt, BitVec.reduceToNat, BitVec.reduceToInt, BitVec.reduceEq, BitVec.reduceLT, BitVec.reduceLE, BitVec.reduceAdd, BitVec.reduceSub, BitVec.reduceMul, BitVec.reduceUDiv, BitVec.reduceUMod, BitVec.reduceAnd, BitVec.reduceOr, BitVec.reduceXOr, BitVec.reduceNot, BitVec.reduceNeg, BitVec.reduceHShiftLeft, BitVec.reduceHShiftRight, Nat.reduceAdd, Nat.reduceMul, Nat.reduceSub, Nat.reduceBEq, Nat.reduceEqDiff, Nat.reduceLeDiff, Nat.reduceLT, Int.reduceLE, Int.reduceLT, Int.reduceAdd, Int.reduceSub, Int.reduceMul, Int.reduceNeg, Int.reduceToNat, Int.reduceEq, ↓reduceIte, reduceCtorEq, e0]))
              exact fin_tail1 2 (Nat.le_refl _) hH rfl (map_bel gU_num _ _) ren_sl0.symm (by simp [AV.bel, Sc.bel])
      · have hL : isL kk c s = false := by simp [isL, hg]
        rw [hL] at h
        simp only [Bool.false_eq_true, if_false, Option.some.injEq, Prod.mk.injEq] at h
        obtain ⟨rfl, rfl⟩ := h
        refine ⟨by simp only [List.length_cons, List.length_nil]; decide, ?_⟩
        (try simp (config := { maxSteps := 10000000 }) only [go_sem, List.reduceReplicate, BitVec.reduceOfInt, BitVec.reduceToNat, BitVec.reduceToInt, BitVec.reduceEq, BitVec.reduceLT, BitVec.reduceLE, BitVec.reduceAdd, BitVec.reduceSub, BitVec.reduceMul, BitVec.reduceUDiv, BitVec.reduceUMod, BitVec.reduceAnd, BitVec.reduceOr, BitVec.reduceXOr, BitVec.reduceNot, BitVec.reduceNeg, BitVec.reduceHShiftLeft, BitVec.reduceHShiftRight, Nat.reduceAdd, Nat.reduceMul, Nat.reduceSub, Nat.reduceBEq, Nat.reduceEqDiff, Nat.reduceLeDiff, Nat.reduceLT, Int.reduceLE, Int.reduceLT, Int.reduceAdd, Int.reduceSub, Int.reduceMul, Int.reduceNeg, Int.reduceToNat, Int.reduceEq, ↓reduceIte, reduceCtorEq, s_rgroup31_eq, s_r14access_eq, s_rsmay_eq, s_rbyte_eq, hg, lr, pr, rt]; repeat (simp (disch := omega) only [w64_d, ipos, ineg, dpos, dneg]; try simp (config := { maxSteps := 10000000 }) only [go_sem, List.reduceReplicate, BitVec.reduceOfInt, BitVec.reduceToNat, BitVec.reduceToInt, BitVec.reduceEq, BitVec.reduceLT, BitVec.reduceLE, BitVec.reduceAdd, BitVec.reduceSub, BitVec.reduceMul, BitVec.reduceUDiv, BitVec.reduceUMod, BitVec.reduceAnd, BitVec.reduceOr, BitVec.reduceXOr, BitVec.reduceNot, BitVec.reduceNeg, BitVec.reduceHShiftLeft, BitVec.reduceHShiftRight, Nat.reduceAdd, Nat.reduceMul, Nat.reduceSub, Nat.reduceBEq, Nat.reduceEqDiff, Nat.reduceLeDiff, Nat.reduceLT, Int.reduceLE, Int.reduceLT, Int.reduceAdd, Int.reduceSub, Int.reduceMul, Int.reduceNeg, Int.reduceToNat, Int.reduceEq, ↓reduceIte, reduceCtorEq, s_rgroup31_eq, s_r14access_eq, s_rsmay_eq, s_rbyte_eq, hg, lr, pr, rt]))
        exact fin_fp rfl (subH_app _ _) hH (Nat.le_refl _)
    · simp at h
  · simp at h
end
end Go.Proofs.Ytamjmjllgmachaa
