/- Layer 11: an access' stripes: contracts. -/
import Derived.Test.YtlkhmklmiompeaaS5
import Derived.Test.YtlkhmklmiompeaaSoI
namespace Go.Proofs.Ytlkhmklmiompeaa
open Go.Am
set_option linter.unusedSimpArgs false
set_option linter.unusedVariables false
noncomputable section

def strL (a b : BitVec 64) (c s st : Int) : List Int := (accP a b c s).map fun p => stripeU p.a st
theorem strL_len {a b : BitVec 64} {c s st : Int} : (strL a b c s st).length = (accP a b c s).length := by simp [strL]
theorem accP_le {a b : BitVec 64} {c s : Int} : (accP a b c s).length ≤ 4 := by
  cases h : smB c s
  · unfold accP; rw [if_neg (by simp [h])]; simp
  · exact (good_acc h).2.2
def s_stripes (args : List AV) (H : AH) : Option (AV × AH) :=
  match args with
  | [.g [.u a, .u b, .i c, .i s], .c (.i st)] =>
    if inR st then
      if smB c s = true then some (.c (.sl H.length 0 (strL a b c s st).length (ddp (srt ltI (strL a b c s st))).length), H ++ [.vec 1 (cmpCI (srt ltI (strL a b c s st)))])
      else some (.c .nils, H)
    else none
  | _ => none
theorem len_stripes (args : List AV) (H : AH) (v : AV) (H1 : AH) (h : s_stripes args H = some (v, H1)) : H.length ≤ H1.length := by
  unfold s_stripes at h
  repeat' split at h
  all_goals simp at h
  all_goals rw [← h.2]
  all_goals simp
theorem cmpCI_bel {A : List Int} {n : Nat} : (cmpCI A).all (Sc.bel n) = true := by
  unfold cmpCI
  rw [List.all_append, Bool.and_eq_true]; exact ⟨map_bel gI_num _ _, by rw [List.all_replicate]; split <;> rfl⟩
set_option maxHeartbeats 4000000 in
set_option maxRecDepth 100000 in
set_option maxHeartbeats 2000000 in
theorem ok_stripes : FpOk Try.prog 22 s_stripes := by
  refine fp_ok (s := s_stripes) (tab := [(19, .fp s_pieces), (12, .pu s_sstripe), (29, .fp s_sortI), (30, .fp s_cmpI)]) hmix (TabOk.cons (e := .fp s_pieces) ok_pieces (TabOk.cons (e := .pu s_sstripe) ok_sstripe (TabOk.cons (e := .fp s_sortI) ok_sortI (TabOk.cons (e := .fp s_cmpI) ok_cmpI TabOk.nil)))) Try.func22 rfl Try.results22 Try.ntmps22 (by kernel_rfl) (by kernel_rfl) len_stripes ?_
  intro args H v H1 h hargs hH
  unfold s_stripes at h
  split at h
  · rename_i a b c s st
    split at h
    · rename_i hst
      cases hm : smB c s
      · rw [hm] at h
        simp only [Bool.false_eq_true, if_false, Option.some.injEq, Prod.mk.injEq] at h
        obtain ⟨rfl, rfl⟩ := h
        refine ⟨by simp only [List.length_cons, List.length_nil]; decide, ?_⟩
        have v0 : ∀ H, vecD dcI H .nils = some [] := fun _ => rfl
        have p1 := fun H => s_sortI_eq (v0 H) (by decide)
        have p2 := fun H => s_cmpI_eq (v0 H) (by decide)
        have e2 : ∀ H, cmpI H .nils [] = (.nils, H) := fun _ => rfl
        have e3 : ∀ H cs, putV H .nils cs = H := fun _ _ => rfl
        (try simp (config := { maxSteps := 10000000 }) only [go_sem, List.reduceReplicate, BitVec.reduceOfInt, BitVec.reduceToNat, BitVec.reduceToInt, BitVec.reduceEq, BitVec.reduceLT, BitVec.reduceLE, BitVec.reduceAdd, BitVec.reduceSub, BitVec.reduceMul, BitVec.reduceUDiv, BitVec.reduceUMod, BitVec.reduceAnd, BitVec.reduceOr, BitVec.reduceXOr, BitVec.reduceNot, BitVec.reduceNeg, BitVec.reduceHShiftLeft, BitVec.reduceHShiftRight, Nat.reduceAdd, Nat.reduceMul, Nat.reduceSub, Nat.reduceBEq, Nat.reduceEqDiff, Nat.reduceLeDiff, Nat.reduceLT, Int.reduceLE, Int.reduceLT, Int.reduceAdd, Int.reduceSub, Int.reduceMul, Int.reduceNeg, Int.reduceToNat, Int.reduceEq, ↓reduceIte, reduceCtorEq, s_pieces_eq, s_sstripe_eq, s_sortI_eq, s_cmpI_eq, hm]; repeat (simp (disch := omega) only [w64_d, ipos, ineg, dpos, dneg]; try simp (config := { maxSteps := 10000000 }) only [go_sem, List.reduceReplicate, BitVec.reduceOfInt, BitVec.reduceToNat, BitVec.reduceToInt, BitVec.reduceEq, BitVec.reduceLT, BitVec.reduceLE, BitVec.reduceAdd, BitVec.reduceSub, BitVec.reduceMul, BitVec.reduceUDiv, BitVec.reduceUMod, BitVec.reduceAnd, BitVec.reduceOr, BitVec.reduceXOr, BitVec.reduceNot, BitVec.reduceNeg, BitVec.reduceHShiftLeft, BitVec.reduceHShiftRight, Nat.reduceAdd, Nat.reduceMul, Nat.reduceSub, Nat.reduceBEq, Nat.reduceEqDiff, Nat.reduceLeDiff, Nat.reduceLT, Int.reduceLE, Int.reduceLT, Int.reduceAdd, Int.reduceSub, Int.reduceMul, Int.reduceNeg, Int.reduceToNat, Int.reduceEq, ↓reduceIte, reduceCtorEq, s_pieces_eq, s_sstripe_eq, s_sortI_eq, s_cmpI_eq, hm]))
        refine arun_for 0 (fun _ => ([(5, .c .nils), (10, .c (.i 0)), (11, .c (.i 0))], H)) ?_ fun j hj => ?_
        · exact Wk.wk (Nat.le_refl _) (by simp [Am.get]) (by rfl) (subH_app _ _) hH
        · (try simp (config := { maxSteps := 10000000 }) only [go_sem, List.reduceReplicate, BitVec.reduceOfInt, BitVec.reduceToNat, BitVec.reduceToInt, BitVec.reduceEq, BitVec.reduceLT, BitVec.reduceLE, BitVec.reduceAdd, BitVec.reduceSub, BitVec.reduceMul, BitVec.reduceUDiv, BitVec.reduceUMod, BitVec.reduceAnd, BitVec.reduceOr, BitVec.reduceXOr, BitVec.reduceNot, BitVec.reduceNeg, BitVec.reduceHShiftLeft, BitVec.reduceHShiftRight, Nat.reduceAdd, Nat.reduceMul, Nat.reduceSub, Nat.reduceBEq, Nat.reduceEqDiff, Nat.reduceLeDiff, Nat.reduceLT, Int.reduceLE, Int.reduceLT, Int.reduceAdd, Int.reduceSub, Int.reduceMul, Int.reduceNeg, Int.reduceToNat, Int.reduceEq, ↓reduceIte, reduceCtorEq, p1, p2, e2, e3]; repeat (simp (disch := omega) only [w64_d, ipos, ineg, dpos, dneg]; try simp (config := { maxSteps := 10000000 }) only [go_sem, List.reduceReplicate, BitVec.reduceOfInt, BitVec.reduceToNat, BitVec.reduceToInt, BitVec.reduceEq, BitVec.reduceLT, BitVec.reduceLE, BitVec.reduceAdd, BitVec.reduceSub, BitVec.reduceMul, BitVec.reduceUDiv, BitVec.reduceUMod, BitVec.reduceAnd, BitVec.reduceOr, BitVec.reduceXOr, BitVec.reduceNot, BitVec.reduceNeg, BitVec.reduceHShiftLeft, BitVec.reduceHShiftRight, Nat.reduceAdd, Nat.reduceMul, Nat.reduceSub, Nat.reduceBEq, Nat.reduceEqDiff, Nat.reduceLeDiff, Nat.reduceLT, Int.reduceLE, Int.reduceLT, Int.reduceAdd, Int.reduceSub, Int.reduceMul, Int.reduceNeg, Int.reduceToNat, Int.reduceEq, ↓reduceIte, reduceCtorEq, p1, p2, e2, e3]))
          exact fin_fp rfl (subH_refl _) hH (Nat.le_refl _)
      · rw [hm] at h
        simp only [if_true, Option.some.injEq, Prod.mk.injEq] at h
        obtain ⟨rfl, rfl⟩ := h
        refine ⟨by simp only [List.length_cons, List.length_nil]; decide, ?_⟩
        have l4 := @accP_le a b c s
        have sl := @strL_len a b c s st
        have eL := accL_P a b c s
        have eN := accN_P a b c s
        have sg : ∀ (k : Nat) (p : Pc), (accP a b c s)[k]? = some p → (strL a b c s st)[k]? = some (stripeU p.a st) := fun k p h => by simp [strL, h]
        generalize strL a b c s st = A at *
        generalize accP a b c s = l at *
        (try simp (config := { maxSteps := 10000000 }) only [go_sem, List.reduceReplicate, BitVec.reduceOfInt, BitVec.reduceToNat, BitVec.reduceToInt, BitVec.reduceEq, BitVec.reduceLT, BitVec.reduceLE, BitVec.reduceAdd, BitVec.reduceSub, BitVec.reduceMul, BitVec.reduceUDiv, BitVec.reduceUMod, BitVec.reduceAnd, BitVec.reduceOr, BitVec.reduceXOr, BitVec.reduceNot, BitVec.reduceNeg, BitVec.reduceHShiftLeft, BitVec.reduceHShiftRight, Nat.reduceAdd, Nat.reduceMul, Nat.reduceSub, Nat.reduceBEq, Nat.reduceEqDiff, Nat.reduceLeDiff, Nat.reduceLT, Int.reduceLE, Int.reduceLT, Int.reduceAdd, Int.reduceSub, Int.reduceMul, Int.reduceNeg, Int.reduceToNat, Int.reduceEq, ↓reduceIte, reduceCtorEq, s_pieces_eq, s_sstripe_eq, s_sortI_eq, s_cmpI_eq, hm, eL, eN]; repeat (simp (disch := omega) only [w64_d, ipos, ineg, dpos, dneg]; try simp (config := { maxSteps := 10000000 }) only [go_sem, List.reduceReplicate, BitVec.reduceOfInt, BitVec.reduceToNat, BitVec.reduceToInt, BitVec.reduceEq, BitVec.reduceLT, BitVec.reduceLE, BitVec.reduceAdd, BitVec.reduceSub, BitVec.reduceMul, BitVec.reduceUDiv, BitVec.reduceUMod, BitVec.reduceAnd, BitVec.reduceOr, BitVec.reduceXOr, BitVec.reduceNot, BitVec.reduceNeg, BitVec.reduceHShiftLeft, BitVec.reduceHShiftRight, Nat.reduceAdd, Nat.reduceMul, Nat.reduceSub, Nat.reduceBEq, Nat.reduceEqDiff, Nat.reduceLeDiff, Nat.reduceLT, Int.reduceLE, Int.reduceLT, Int.reduceAdd, Int.reduceSub, Int.reduceMul, Int.reduceNeg, Int.reduceToNat, Int.reduceEq, ↓reduceIte, reduceCtorEq, s_pieces_eq, s_sstripe_eq, s_sortI_eq, s_cmpI_eq, hm, eL, eN]))
        have fl : (l.flatMap encP).length = 3 * l.length := by rw [fm_len encP_l, Nat.mul_comm]
        have lb : ∀ n, (l.flatMap encP).all (Sc.bel n) = true := fun n => by rw [List.all_flatMap]; exact List.all_eq_true.2 fun _ _ => rfl
        have bb : ∀ k, belH (H ++ [.dead, .dead, .vec 3 (l.flatMap encP), .vec 1 ((A.take k).map gI)]) = true := fun k => belH_app hH (by simp only [List.mem_cons, List.not_mem_nil, or_false, forall_eq_or_imp, forall_eq]; exact ⟨rfl, rfl, lb _, map_bel gI_num _ _⟩)
        refine arun_for l.length (fun k => ([(1, .c (.i st)), (5, .c (.sl (H.length + 3) 0 k k)), (9, .c (.sl (H.length + 2) 0 (3 * l.length) l.length)), (10, .c (.i l.length)), (11, .c (.i k))], H ++ [.dead, .dead, .vec 3 (l.flatMap encP), .vec 1 ((A.take k).map gI)])) ?_ fun k hk => ?_
        · exact Wk.trans (Wk.nil 5 1 (by decide) rfl (by simp [lo])) (Wk.wk (by simp [lo]) (by simp [Am.get]) (by simp [AV.bel, Sc.bel]) (by rw [List.append_assoc]; exact subH_pre _ ⟨.inl rfl, .inl rfl, .inr rfl, .inr rfl, trivial⟩) (bb 0))
        · have tl : ((A.take k).map gI).length = k := by simp; omega
          by_cases hlt : k < l.length
          · obtain ⟨p, hp⟩ : ∃ p, l[k]? = some p := ⟨_, List.getElem?_eq_getElem hlt⟩
            have e1 : w64 ((k : Int) + 1) = ((k + 1 : Nat) : Int) := by rw [w64_d (by omega) (by omega)]; omega
            have g1 := fm_le encP_l (L := l) (k := k) hlt
            have g3 := pc_row hp
            rw [fl] at g1
            have hA := sg k p hp
            have ht : (A.take (k + 1)).map gI = (A.take k).map gI ++ [.i (stripeU p.a st)] := by rw [List.take_add_one, hA, Option.toList_some, List.map_append]; rfl
            have k5 : (k + 1) * 8 ≤ 1099511627776 := by omega
            (try simp (config := { maxSteps := 10000000 }) only [go_sem, List.reduceReplicate, BitVec.reduceOfInt, BitVec.reduceToNat, BitVec.reduceToInt, BitVec.reduceEq, BitVec.reduceLT, BitVec.reduceLE, BitVec.reduceAdd, BitVec.reduceSub, BitVec.reduceMul, BitVec.reduceUDiv, BitVec.reduceUMod, BitVec.reduceAnd, BitVec.reduceOr, BitVec.reduceXOr, BitVec.reduceNot, BitVec.reduceNeg, BitVec.reduceHShiftLeft, BitVec.reduceHShiftRight, Nat.reduceAdd, Nat.reduceMul, Nat.reduceSub, Nat.reduceBEq, Nat.reduceEqDiff, Nat.reduceLeDiff, Nat.reduceLT, Int.reduceLE, Int.reduceLT, Int.reduceAdd, Int.reduceSub, Int.reduceMul, Int.reduceNeg, Int.reduceToNat, Int.reduceEq, ↓reduceIte, reduceCtorEq, s_pieces_eq, s_sstripe_eq, s_sortI_eq, s_cmpI_eq, e1, g1, g3, encP, fl, tl, hst, k5, List.take_succ_cons, List.take_zero]; repeat (simp (disch := omega) only [w64_d, ipos, ineg, dpos, dneg]; try simp (config := { maxSteps := 10000000 }) only [go_sem, List.reduceReplicate, BitVec.reduceOfInt, BitVec.reduceToNat, BitVec.reduceToInt, BitVec.reduceEq, BitVec.reduceLT, BitVec.reduceLE, BitVec.reduceAdd, BitVec.reduceSub, BitVec.reduceMul, BitVec.reduceUDiv, BitVec.reduceUMod, BitVec.reduceAnd, BitVec.reduceOr, BitVec.reduceXOr, BitVec.reduceNot, BitVec.reduceNeg, BitVec.reduceHShiftLeft, BitVec.reduceHShiftRight, Nat.reduceAdd, Nat.reduceMul, Nat.reduceSub, Nat.reduceBEq, Nat.reduceEqDiff, Nat.reduceLeDiff, Nat.reduceLT, Int.reduceLE, Int.reduceLT, Int.reduceAdd, Int.reduceSub, Int.reduceMul, Int.reduceNeg, Int.reduceToNat, Int.reduceEq, ↓reduceIte, reduceCtorEq, s_pieces_eq, s_sstripe_eq, s_sortI_eq, s_cmpI_eq, e1, g1, g3, encP, fl, tl, hst, k5, List.take_succ_cons, List.take_zero]))
            exact ⟨k + 1, by omega, by omega, Wk.wk (by simp [lo]) (by simp [Am.get]) (by simp [AV.bel, Sc.bel]) (subH_pre _ ⟨.inl rfl, .inl rfl, .inr rfl, .inr (by rw [ht]), trivial⟩) (bb (k + 1))⟩
          · obtain rfl : k = l.length := by omega
            have tA : A.take l.length = A := by rw [← sl, List.take_length]
            rw [tA]
            have lS : (srt ltI A).length = A.length := srt_len
            have p1 : s_sortI [.c (.sl (H.length + 3) 0 l.length l.length)] (H ++ [.dead, .dead, .vec 3 (l.flatMap encP), .vec 1 (A.map gI)]) = some (.t [], H ++ [.dead, .dead, .vec 3 (l.flatMap encP), .vec 1 ((srt ltI A).map gI)]) := by
              rw [s_sortI_eq (A := A) (vecD_of (g := gI) dcI_e (by rw [hg_len_add]; rfl) sl.symm sl.symm) (by omega)]
              simp only [putV, set_len_add]; rfl
            have p2 : s_cmpI [.c (.sl (H.length + 3) 0 l.length l.length)] (H ++ [.dead, .dead, .vec 3 (l.flatMap encP), .vec 1 ((srt ltI A).map gI)]) = some (.c (.sl (H.length + 3) 0 l.length (ddp (srt ltI A)).length), H ++ [.dead, .dead, .vec 3 (l.flatMap encP), .vec 1 (cmpCI (srt ltI A))]) := by
              rw [s_cmpI_eq (A := srt ltI A) (vecD_of (g := gI) dcI_e (by rw [hg_len_add]; rfl) (by omega) (by omega)) (by omega), cmpI_sl (by rw [hg_len_add]; rfl) (by simp) (by omega)]
              simp only [set_len_add]; rfl
            (try simp (config := { maxSteps := 10000000 }) only [go_sem, List.reduceReplicate, BitVec.reduceOfInt, BitVec.reduceToNat, BitVec.reduceToInt, BitVec.reduceEq, BitVec.reduceLT, BitVec.reduceLE, BitVec.reduceAdd, BitVec.reduceSub, BitVec.reduceMul, BitVec.reduceUDiv, BitVec.reduceUMod, BitVec.reduceAnd, BitVec.reduceOr, BitVec.reduceXOr, BitVec.reduceNot, BitVec.reduceNeg, BitVec.reduceHShiftLeft, BitVec.reduceHShiftRight, Nat.reduceAdd, Nat.reduceMul, Nat.reduceSub, Nat.reduceBEq, Nat.reduceEqDiff, Nat.reduceLeDiff, Nat.reduceLT, Int.reduceLE, Int.reduceLT, Int.reduceAdd, Int.reduceSub, Int.reduceMul, Int.reduceNeg, Int.reduceToNat, Int.reduceEq, ↓reduceIte, reduceCtorEq, p1, p2]; repeat (simp (disch := omega) only [w64_d, ipos, ineg, dpos, dneg]; try simp (config := { maxSteps := 10000000 }) only [go_sem, List.reduceReplicate, BitVec.reduceOfInt, BitVec.reduceToNat, BitVec.reduceToInt, BitVec.reduceEq, BitVec.reduceLT, BitVec.reduceLE, BitVec.reduceAdd, BitVec.reduceSub, BitVec.reduceMul, BitVec.reduceUDiv, BitVec.reduceUMod, BitVec.reduceAnd, BitVec.reduceOr, BitVec.reduceXOr, BitVec.reduceNot, BitVec.reduceNeg, BitVec.reduceHShiftLeft, BitVec.reduceHShiftRight, Nat.reduceAdd, Nat.reduceMul, Nat.reduceSub, Nat.reduceBEq, Nat.reduceEqDiff, Nat.reduceLeDiff, Nat.reduceLT, Int.reduceLE, Int.reduceLT, Int.reduceAdd, Int.reduceSub, Int.reduceMul, Int.reduceNeg, Int.reduceToNat, Int.reduceEq, ↓reduceIte, reduceCtorEq, p1, p2]))
            rw [sl]
            exact fin_tail1 3 (Nat.le_refl _) hH rfl cmpCI_bel ren_sl0.symm (by simp [AV.bel, Sc.bel])
    · simp at h
  · simp at h

/-! ### the reference's pieces, byte by byte -/
/-- a byte more -/
def byP (B : Int → BitVec 64) (c : Int) (l : List Pc) (i : Nat) : List Pc :=
  match l.getLast? with
  | some p => if (i : Int) ≠ c ∧ B i / 64#64 = p.a / 64#64 then l.dropLast ++ [⟨p.a, p.n + 1, p.s⟩] else l ++ [⟨B i, 1, 8 * i⟩]
  | none => l ++ [⟨B i, 1, 8 * i⟩]
def byL (B : Int → BitVec 64) (c : Int) : Nat → List Pc
  | 0 => []
  | i + 1 => byP B c (byL B c i) i
theorem line_next (a : BitVec 64) (k : Int) (h0 : (left a : Int) ≤ k) (hk : k < 64) : (a + BitVec.ofInt 64 k) / 64#64 ≠ a / 64#64 := by
  have ha := a.isLt
  unfold left at h0
  have e0 : (BitVec.ofInt 64 k).toNat = k.toNat := by rw [BitVec.toNat_ofInt]; omega
  have e : (64#64).toNat = 64 := rfl
  intro h
  have := congrArg BitVec.toNat h
  rw [BitVec.toNat_udiv, BitVec.toNat_udiv, BitVec.toNat_add, e0, e] at this
  omega
/-- bytes side by side, behind what stands there already -/
theorem byL_run {B : Int → BitVec 64} {c : Int} {a : BitVec 64} {m : Nat} (N : Nat) (hN : N ≤ 8) (hf : byL B c m = [] ∨ (m : Int) = c) (hB : ∀ j : Nat, j < N → B (m + j) = a + BitVec.ofInt 64 j) (hc : ∀ j : Nat, 0 < j → j < N → (m + j : Int) ≠ c) :
    ∀ n : Nat, 1 ≤ n → n ≤ N → byL B c (m + n) = byL B c m ++ pcP a n (8 * m) := by
  have ll : 1 ≤ left a ∧ left a ≤ 64 := by unfold left; omega
  intro n
  induction n with
  | zero => intro h; omega
  | succ n ih =>
    intro h1 h8
    show byP B c (byL B c (m + n)) (m + n) = _
    rcases Nat.eq_zero_or_pos n with rfl | hn
    · have b0 : B m = a := by have := hB 0 (by omega); simpa using this
      have e1 : pcP a ((0 + 1 : Nat) : Int) (8 * m) = [⟨a, 1, 8 * m⟩] := by unfold pcP; rw [if_pos (by omega)]; rfl
      rw [e1, Nat.add_zero]
      unfold byP
      rcases hf with hf | hf
      · rw [hf]; simp [b0]
      · split
        · rw [if_neg (fun h => h.1 hf), b0]
        · rw [b0]
    · rw [ih hn (by omega)]
      have bn := hB n (by omega)
      have cn := hc n hn (by omega)
      have e0 : ((m + n : Nat) : Int) = (m : Int) + n := by omega
      unfold byP pcP
      rw [e0, bn]
      by_cases h2 : (n : Int) ≤ left a
      · rw [if_pos h2]
        simp only [List.getLast?_append, List.getLast?_singleton, Option.some_or]
        by_cases h3 : ((n + 1 : Nat) : Int) ≤ left a
        · rw [if_pos h3, if_pos ⟨cn, line_same _ _ (by omega) (by omega)⟩]
          simp
        · rw [if_neg h3, if_neg (fun h => line_next a n (by omega) (by omega) h.2)]
          have e4 : (n : Int) = left a := by omega
          have e5 : ((n + 1 : Nat) : Int) - left a = 1 := by omega
          have e6 : 8 * ((m : Int) + n) = 8 * m + 8 * left a := by omega
          rw [e5, e6, e4]; simp
      · rw [if_neg h2, if_neg (by omega)]
        have hl : (byL B c m ++ [⟨a, (left a : Int), 8 * (m : Int)⟩, ⟨a + BitVec.ofInt 64 (left a), n - left a, 8 * m + 8 * left a⟩] : List Pc).getLast? = some ⟨a + BitVec.ofInt 64 (left a), n - left a, 8 * m + 8 * left a⟩ := by simp
        rw [hl]
        simp only
        have e5 : ((n + 1 : Nat) : Int) - left a = n - left a + 1 := by omega
        have hline : (a + BitVec.ofInt 64 n) / 64#64 = (a + BitVec.ofInt 64 (left a)) / 64#64 := by
          have := line_same (a + BitVec.ofInt 64 (left a)) (n - left a) (by omega) (by rw [left_al]; omega)
          rw [← this, BitVec.add_assoc, ← BitVec.ofInt_add, show (left a : Int) + (n - left a) = n by omega]
        rw [if_pos ⟨cn, hline⟩, e5]
        simp
theorem byL_acc {a b : BitVec 64} {c s : Int} (h : smB c s = true) : byL (byteU a b c) c s.toNat = accP a b c s := by
  have hm : 1 ≤ s ∧ s ≤ 8 ∧ 0 ≤ c ∧ c < s := by simpa [smB] using h
  unfold accP
  rw [if_pos h]
  split
  · rename_i hc
    subst hc
    have := byL_run (B := byteU a b 0) (c := 0) (a := a) (m := 0) 8 (by omega) (.inl rfl) (fun j _ => by unfold byteU; rw [if_neg (by omega)]; congr 2; omega) (fun j _ _ => by omega) s.toNat (by omega) (by omega)
    rw [Nat.zero_add] at this
    rw [this]
    simp only [byL, List.nil_append]
    congr 1
    omega
  · rename_i hc
    obtain ⟨k, rfl⟩ := Int.eq_ofNat_of_zero_le hm.2.2.1
    have r1 := byL_run (B := byteU a b k) (c := k) (a := a) (m := 0) k (by omega) (.inl rfl) (fun j _ => by unfold byteU; rw [if_neg (by omega)]; congr 2; omega) (fun j _ _ => by omega) k (by omega) (by omega)
    rw [Nat.zero_add] at r1
    have r2 := byL_run (B := byteU a b k) (c := k) (a := b) (m := k) 8 (by omega) (.inr rfl) (fun j _ => by unfold byteU; rw [if_pos (by omega)]; congr 2; omega) (fun j _ _ => by omega) (s.toNat - k) (by omega) (by omega)
    rw [r1, show k + (s.toNat - k) = s.toNat by omega] at r2
    rw [r2]
    simp only [byL, List.nil_append]
    have e : ((s.toNat - k : Nat) : Int) = s - k := by omega
    rw [e]; rfl
end
end Go.Proofs.Ytlkhmklmiompeaa
