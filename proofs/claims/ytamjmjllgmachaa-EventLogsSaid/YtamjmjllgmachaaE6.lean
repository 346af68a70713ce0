/- Layer 31: are two logs the same; what a slice has; a hart's last event: contracts. -/
import Derived.Test.YtamjmjllgmachaaE5
namespace Go.Proofs.Ytamjmjllgmachaa
open Go.Am
set_option linter.unusedSimpArgs false
set_option linter.unusedVariables false
noncomputable section

def tgK : K → Tg
  | .n _ => .n
  | .q => .q
  | .s => .s
theorem gTev : tagsT Try.prog 12 40 = some (ksE.map tgK) := by kernel_rfl
theorem cs_fit {l : List Sc} {ks : List K} (h : L2 FitK l ks) : csEq (ks.map tgK) l l = some true := by
  induction h with
  | nil => rfl
  | @cons s k l m h1 h2 ih =>
    have : scEq (tgK k) s s = some true := by
      cases s <;> cases k <;> first | (simp [FitK] at h1; done) | (simp [tgK, scEq])
    simp only [List.map_cons, csEq, this, ih]
    rfl
theorem ev_ne (e : Ev) : abin Try.prog .neq 40 (.g (encE e)) (.g (encE e)) = some (.c (.b false)) := by
  rw [ab_g_neq _ (by kernel_rfl) gTev]
  unfold encE
  rw [cs_fit e.2]; rfl
open Classical in
def s_esame (args : List AV) (H : AH) : Option AV :=
  match args with
  | [.c x, .c y] =>
    match slD 65 dcE H x, slD 65 dcE H y with
    | some A, some B => if A.length ≤ 1000000 ∧ A.map (·.1) = B.map (·.1) then some (.c (.b true)) else none
    | _, _ => none
  | _ => none
theorem s_esame_of {x y : Sc} {H : AH} {L : List Ev} (h1 : slD 65 dcE H x = some L) (h2 : slD 65 dcE H y = some L) (hl : L.length ≤ 1000000) : s_esame [.c x, .c y] H = some (.c (.b true)) := by
  simp only [s_esame, h1, h2, hl, and_self, if_true]
set_option maxRecDepth 100000 in
set_option maxHeartbeats 2000000 in
theorem ok_esame : FpOk Try.prog 9 (fun args H => (s_esame args H).map fun v => (v, H)) := by
  refine fq_ok (s := s_esame) (tab := []) hmix TabOk.nil Try.func9 rfl Try.results9 Try.ntmps9 (by kernel_rfl) (by kernel_rfl) ?_
  intro args H v h hargs hH
  unfold s_esame at h
  split at h
  · rename_i x y
    split at h
    · rename_i A B hA hB
      split at h
      · rename_i hc
        obtain ⟨hn, hc⟩ := hc
        obtain rfl : A = B := by
          apply List.ext_getElem?
          intro i
          have := congrArg (fun l => l[i]?) hc
          simp only [List.getElem?_map] at this
          cases h1 : A[i]? <;> cases h2 : B[i]? <;> rw [h1, h2] at this <;> simp at this
          exact congrArg some (Subtype.ext this)
        simp only [Option.some.injEq] at h
        subst h
        refine ⟨by simp only [List.length_cons, List.length_nil]; decide, rfl, ?_⟩
        have bx : x.bel H.length = true := by simp only [List.all_cons, AV.bel, Bool.and_eq_true] at hargs; exact hargs.1
        have byy : y.bel H.length = true := by simp only [List.all_cons, AV.bel, Bool.and_eq_true] at hargs; exact hargs.2.1
        have hx := slD_inv dcE_d hA
        have hy := slD_inv dcE_d hB
        have xl : ∀ e, lenB (.sl e) (.c x) = some (.c (.i A.length)) := by
          intro e
          rcases hx with ⟨rfl, rfl⟩ | ⟨id2, v2, rfl, _, _⟩ <;> rfl
        have yl : ∀ e, lenB (.sl e) (.c y) = some (.c (.i A.length)) := by
          intro e
          rcases hy with ⟨rfl, rfl⟩ | ⟨id2, v2, rfl, _, _⟩ <;> rfl
        (try simp (config := { maxSteps := 10000000 }) only [go_sem, List.reduceReplicate, BitVec.reduceOfInt, BitVec.reduceToNat, BitVec.reduceToInt, BitVec.reduceEq, BitVec.reduceLT, BitVec.reduceLE, BitVec.reduceAdd, BitVec.reduceSub, BitVec.reduceMul, BitVec.reduceUDiv, BitVec.reduceUMod, BitVec.reduceAnd, BitVec.reduceOr, BitVec.reduceXOr, BitVec.reduceNot, BitVec.reduceNeg, BitVec.reduceHShiftLeft, BitVec.reduceHShiftRight, Nat.reduceAdd, Nat.reduceMul, Nat.reduceSub, Nat.reduceBEq, Nat.reduceEqDiff, Nat.reduceLeDiff, Nat.reduceLT, Int.reduceLE, Int.reduceLT, Int.reduceAdd, Int.reduceSub, Int.reduceMul, Int.reduceNeg, Int.reduceToNat, Int.reduceEq, ↓reduceIte, reduceCtorEq, xl, yl]; repeat (simp (disch := omega) only [w64_d, ipos, ineg, dpos, dneg]; try simp (config := { maxSteps := 10000000 }) only [go_sem, List.reduceReplicate, BitVec.reduceOfInt, BitVec.reduceToNat, BitVec.reduceToInt, BitVec.reduceEq, BitVec.reduceLT, BitVec.reduceLE, BitVec.reduceAdd, BitVec.reduceSub, BitVec.reduceMul, BitVec.reduceUDiv, BitVec.reduceUMod, BitVec.reduceAnd, BitVec.reduceOr, BitVec.reduceXOr, BitVec.reduceNot, BitVec.reduceNeg, BitVec.reduceHShiftLeft, BitVec.reduceHShiftRight, Nat.reduceAdd, Nat.reduceMul, Nat.reduceSub, Nat.reduceBEq, Nat.reduceEqDiff, Nat.reduceLeDiff, Nat.reduceLT, Int.reduceLE, Int.reduceLT, Int.reduceAdd, Int.reduceSub, Int.reduceMul, Int.reduceNeg, Int.reduceToNat, Int.reduceEq, ↓reduceIte, reduceCtorEq, xl, yl]))
        refine arun_for A.length (fun k => ([(0, .c x), (1, .c y), (5, .c (.i k))], H)) ?_ fun k hk => ?_
        · exact Wk.wk (by simp [lo]) (by simp [Am.get]) (by simp only [List.all_cons, List.all_nil, Bool.and_true, Bool.and_eq_true, AV.bel]; exact ⟨bx, byy, rfl⟩) (subH_refl _) hH
        · have k0 : (0 : Int) ≤ (k : Int) := by omega
          by_cases hlt : k < A.length
          rotate_left
          · obtain rfl : k = A.length := by omega
            (try simp (config := { maxSteps := 10000000 }) only [go_sem, List.reduceReplicate, BitVec.reduceOfInt, BitVec.reduceToNat, BitVec.reduceToInt, BitVec.reduceEq, BitVec.reduceLT, BitVec.reduceLE, BitVec.reduceAdd, BitVec.reduceSub, BitVec.reduceMul, BitVec.reduceUDiv, BitVec.reduceUMod, BitVec.reduceAnd, BitVec.reduceOr, BitVec.reduceXOr, BitVec.reduceNot, BitVec.reduceNeg, BitVec.reduceHShiftLeft, BitVec.reduceHShiftRight, Nat.reduceAdd, Nat.reduceMul, Nat.reduceSub, Nat.reduceBEq, Nat.reduceEqDiff, Nat.reduceLeDiff, Nat.reduceLT, Int.reduceLE, Int.reduceLT, Int.reduceAdd, Int.reduceSub, Int.reduceMul, Int.reduceNeg, Int.reduceToNat, Int.reduceEq, ↓reduceIte, reduceCtorEq, xl, yl]; repeat (simp (disch := omega) only [w64_d, ipos, ineg, dpos, dneg]; try simp (config := { maxSteps := 10000000 }) only [go_sem, List.reduceReplicate, BitVec.reduceOfInt, BitVec.reduceToNat, BitVec.reduceToInt, BitVec.reduceEq, BitVec.reduceLT, BitVec.reduceLE, BitVec.reduceAdd, BitVec.reduceSub, BitVec.reduceMul, BitVec.reduceUDiv, BitVec.reduceUMod, BitVec.reduceAnd, BitVec.reduceOr, BitVec.reduceXOr, BitVec.reduceNot, BitVec.reduceNeg, BitVec.reduceHShiftLeft, BitVec.reduceHShiftRight, Nat.reduceAdd, Nat.reduceMul, Nat.reduceSub, Nat.reduceBEq, Nat.reduceEqDiff, Nat.reduceLeDiff, Nat.reduceLT, Int.reduceLE, Int.reduceLT, Int.reduceAdd, Int.reduceSub, Int.reduceMul, Int.reduceNeg, Int.reduceToNat, Int.reduceEq, ↓reduceIte, reduceCtorEq, xl, yl]))
            exact subH_refl _
          have kI : ((k : Int) < (A.length : Int)) := by omega
          obtain ⟨e, he⟩ : ∃ e, A[k]? = some e := ⟨_, List.getElem?_eq_getElem hlt⟩
          have e1 : w64 ((k : Int) + 1) = ((k + 1 : Nat) : Int) := by rw [w64_of (by omega)]; omega
          rcases hx with ⟨rfl, rfl⟩ | ⟨i1, v1, rfl, hv1, hcs1⟩
          · simp at hlt
          rcases hy with ⟨rfl, rfl⟩ | ⟨i2, v2, rfl, hv2, hcs2⟩
          · simp at hlt
          have hv1 := hv1.symm
          have hv2 := hv2.symm
          have b1 : (k * 65 + 65 ≤ (hg H i1).cells.length) = True := eq_true (by rw [hcs1]; exact fm_le encE_l hlt)
          have b2 : (k * 65 + 65 ≤ (hg H i2).cells.length) = True := eq_true (by rw [hcs2]; exact fm_le encE_l hlt)
          have g1 : ((hg H i1).cells.drop (k * 65)).take 65 = encE e := by rw [hcs1]; exact fm_get encE_l he
          have g2 : ((hg H i2).cells.drop (k * 65)).take 65 = encE e := by rw [hcs2]; exact fm_get encE_l he
          have ne := ev_ne e
          (try simp (config := { maxSteps := 10000000 }) only [go_sem, List.reduceReplicate, BitVec.reduceOfInt, BitVec.reduceToNat, BitVec.reduceToInt, BitVec.reduceEq, BitVec.reduceLT, BitVec.reduceLE, BitVec.reduceAdd, BitVec.reduceSub, BitVec.reduceMul, BitVec.reduceUDiv, BitVec.reduceUMod, BitVec.reduceAnd, BitVec.reduceOr, BitVec.reduceXOr, BitVec.reduceNot, BitVec.reduceNeg, BitVec.reduceHShiftLeft, BitVec.reduceHShiftRight, Nat.reduceAdd, Nat.reduceMul, Nat.reduceSub, Nat.reduceBEq, Nat.reduceEqDiff, Nat.reduceLeDiff, Nat.reduceLT, Int.reduceLE, Int.reduceLT, Int.reduceAdd, Int.reduceSub, Int.reduceMul, Int.reduceNeg, Int.reduceToNat, Int.reduceEq, ↓reduceIte, reduceCtorEq, xl, yl, kI, k0, e1, hv1, hv2, b1, b2, g1, g2, ne]; repeat (simp (disch := omega) only [w64_d, ipos, ineg, dpos, dneg]; try simp (config := { maxSteps := 10000000 }) only [go_sem, List.reduceReplicate, BitVec.reduceOfInt, BitVec.reduceToNat, BitVec.reduceToInt, BitVec.reduceEq, BitVec.reduceLT, BitVec.reduceLE, BitVec.reduceAdd, BitVec.reduceSub, BitVec.reduceMul, BitVec.reduceUDiv, BitVec.reduceUMod, BitVec.reduceAnd, BitVec.reduceOr, BitVec.reduceXOr, BitVec.reduceNot, BitVec.reduceNeg, BitVec.reduceHShiftLeft, BitVec.reduceHShiftRight, Nat.reduceAdd, Nat.reduceMul, Nat.reduceSub, Nat.reduceBEq, Nat.reduceEqDiff, Nat.reduceLeDiff, Nat.reduceLT, Int.reduceLE, Int.reduceLT, Int.reduceAdd, Int.reduceSub, Int.reduceMul, Int.reduceNeg, Int.reduceToNat, Int.reduceEq, ↓reduceIte, reduceCtorEq, xl, yl, kI, k0, e1, hv1, hv2, b1, b2, g1, g2, ne]))
          exact ⟨k + 1, by omega, by omega, Wk.wk (by simp [lo]) (by simp [Am.get]) (by simp only [List.all_cons, List.all_nil, Bool.and_true, Bool.and_eq_true, AV.bel]; exact ⟨bx, byy, rfl⟩) (subH_refl _) hH⟩
      · simp at h
    · simp at h
  · simp at h
/-- where a number stands first: -1 where it doesn't -/
def idxI (K : List Int) (k : Int) : Int := match K.findIdx? (fun x => decide (k = x)) with
  | some i => (i : Int)
  | none => -1
def s_eindex (args : List AV) (H : AH) : Option AV :=
  match args with
  | [.c x, .c (.i k)] =>
    match slD 1 dcI H x with
    | some K => if K.length ≤ 1000000 then some (.c (.i (idxI K k))) else none
    | none => none
  | _ => none
theorem s_eindex_of {x : Sc} {H : AH} {K : List Int} {k : Int} (h : slD 1 dcI H x = some K) (hl : K.length ≤ 1000000) : s_eindex [.c x, .c (.i k)] H = some (.c (.i (idxI K k))) := by
  simp only [s_eindex, h, hl, if_true]
set_option maxRecDepth 100000 in
set_option maxHeartbeats 2000000 in
theorem ok_eindex : FpOk Try.prog 38 (fun args H => (s_eindex args H).map fun v => (v, H)) := by
  refine fq_ok (s := s_eindex) (tab := []) hmix TabOk.nil Try.func38 rfl Try.results38 Try.ntmps38 (by kernel_rfl) (by kernel_rfl) ?_
  intro args H v h hargs hH
  unfold s_eindex at h
  split at h
  · rename_i x q
    split at h
    · rename_i K hK
      split at h
      · rename_i hn
        simp only [Option.some.injEq] at h
        subst h
        refine ⟨by simp only [List.length_cons, List.length_nil]; decide, rfl, ?_⟩
        have bx : x.bel H.length = true := by simp only [List.all_cons, AV.bel, Bool.and_eq_true] at hargs; exact hargs.1
        have hx := slD_inv dcI_d hK
        have xl : ∀ e, lenB (.sl e) (.c x) = some (.c (.i K.length)) := by
          intro e
          rcases hx with ⟨rfl, rfl⟩ | ⟨id2, v2, rfl, _, _⟩ <;> rfl
        (try simp (config := { maxSteps := 10000000 }) only [go_sem, List.reduceReplicate, BitVec.reduceOfInt, BitVec.reduceToNat, BitVec.reduceToInt, BitVec.reduceEq, BitVec.reduceLT, BitVec.reduceLE, BitVec.reduceAdd, BitVec.reduceSub, BitVec.reduceMul, BitVec.reduceUDiv, BitVec.reduceUMod, BitVec.reduceAnd, BitVec.reduceOr, BitVec.reduceXOr, BitVec.reduceNot, BitVec.reduceNeg, BitVec.reduceHShiftLeft, BitVec.reduceHShiftRight, Nat.reduceAdd, Nat.reduceMul, Nat.reduceSub, Nat.reduceBEq, Nat.reduceEqDiff, Nat.reduceLeDiff, Nat.reduceLT, Int.reduceLE, Int.reduceLT, Int.reduceAdd, Int.reduceSub, Int.reduceMul, Int.reduceNeg, Int.reduceToNat, Int.reduceEq, ↓reduceIte, reduceCtorEq, xl]; repeat (simp (disch := omega) only [w64_d, ipos, ineg, dpos, dneg]; try simp (config := { maxSteps := 10000000 }) only [go_sem, List.reduceReplicate, BitVec.reduceOfInt, BitVec.reduceToNat, BitVec.reduceToInt, BitVec.reduceEq, BitVec.reduceLT, BitVec.reduceLE, BitVec.reduceAdd, BitVec.reduceSub, BitVec.reduceMul, BitVec.reduceUDiv, BitVec.reduceUMod, BitVec.reduceAnd, BitVec.reduceOr, BitVec.reduceXOr, BitVec.reduceNot, BitVec.reduceNeg, BitVec.reduceHShiftLeft, BitVec.reduceHShiftRight, Nat.reduceAdd, Nat.reduceMul, Nat.reduceSub, Nat.reduceBEq, Nat.reduceEqDiff, Nat.reduceLeDiff, Nat.reduceLT, Int.reduceLE, Int.reduceLT, Int.reduceAdd, Int.reduceSub, Int.reduceMul, Int.reduceNeg, Int.reduceToNat, Int.reduceEq, ↓reduceIte, reduceCtorEq, xl]))
        rw [arun_loop]
        refine ⟨{k : Nat // k ≤ K.length ∧ ∀ j, j < k → ∀ y, K[j]? = some y → q ≠ y}, fun k => ([(0, .c x), (1, .c (.i q)), (7, .c (.i K.length)), (8, .c (.i k.1))], H), fun k => K.length - k.1, ⟨0, by omega, fun j hj => absurd hj (Nat.not_lt_zero _)⟩, ?_, ?_⟩
        · exact Wk.wk (by simp [lo]) (by simp [Am.get]) (by simp only [List.all_cons, List.all_nil, Bool.and_true, Bool.and_eq_true, AV.bel]; exact ⟨bx, rfl, rfl, rfl⟩) (subH_refl _) hH
        · rintro ⟨k, hk, hj⟩
          have k0 : (0 : Int) ≤ (k : Int) := by omega
          by_cases hlt : k < K.length
          rotate_left
          · obtain rfl : k = K.length := by omega
            have e : idxI K q = -1 := by
              unfold idxI
              rw [List.findIdx?_eq_none_iff.2 (fun y hy => by
                obtain ⟨j, hjl, rfl⟩ := List.mem_iff_getElem.1 hy
                simpa using hj j hjl _ (List.getElem?_eq_getElem hjl))]
            (try simp (config := { maxSteps := 10000000 }) only [go_sem, List.reduceReplicate, BitVec.reduceOfInt, BitVec.reduceToNat, BitVec.reduceToInt, BitVec.reduceEq, BitVec.reduceLT, BitVec.reduceLE, BitVec.reduceAdd, BitVec.reduceSub, BitVec.reduceMul, BitVec.reduceUDiv, BitVec.reduceUMod, BitVec.reduceAnd, BitVec.reduceOr, BitVec.reduceXOr, BitVec.reduceNot, BitVec.reduceNeg, BitVec.reduceHShiftLeft, BitVec.reduceHShiftRight, Nat.reduceAdd, Nat.reduceMul, Nat.reduceSub, Nat.reduceBEq, Nat.reduceEqDiff, Nat.reduceLeDiff, Nat.reduceLT, Int.reduceLE, Int.reduceLT, Int.reduceAdd, Int.reduceSub, Int.reduceMul, Int.reduceNeg, Int.reduceToNat, Int.reduceEq, ↓reduceIte, reduceCtorEq, e]; repeat (simp (disch := omega) only [w64_d, ipos, ineg, dpos, dneg]; try simp (config := { maxSteps := 10000000 }) only [go_sem, List.reduceReplicate, BitVec.reduceOfInt, BitVec.reduceToNat, BitVec.reduceToInt, BitVec.reduceEq, BitVec.reduceLT, BitVec.reduceLE, BitVec.reduceAdd, BitVec.reduceSub, BitVec.reduceMul, BitVec.reduceUDiv, BitVec.reduceUMod, BitVec.reduceAnd, BitVec.reduceOr, BitVec.reduceXOr, BitVec.reduceNot, BitVec.reduceNeg, BitVec.reduceHShiftLeft, BitVec.reduceHShiftRight, Nat.reduceAdd, Nat.reduceMul, Nat.reduceSub, Nat.reduceBEq, Nat.reduceEqDiff, Nat.reduceLeDiff, Nat.reduceLT, Int.reduceLE, Int.reduceLT, Int.reduceAdd, Int.reduceSub, Int.reduceMul, Int.reduceNeg, Int.reduceToNat, Int.reduceEq, ↓reduceIte, reduceCtorEq, e]))
            exact subH_refl _
          have kI : ((k : Int) < (K.length : Int)) := by omega
          obtain ⟨y, hy⟩ : ∃ y, K[k]? = some y := ⟨_, List.getElem?_eq_getElem hlt⟩
          have e1 : w64 ((k : Int) + 1) = ((k + 1 : Nat) : Int) := by rw [w64_of (by omega)]; omega
          rcases hx with ⟨rfl, rfl⟩ | ⟨i1, v1, rfl, hv1, hcs1⟩
          · simp at hlt
          have hv1 := hv1.symm
          have g1 : (hg H i1).cells.getD k .any = .i y := by rw [hcs1]; exact fm1 (g := Sc.i) (fun _ => rfl) hy
          have b1 : k + 1 ≤ (hg H i1).cells.length := by
            rw [hcs1]
            have := fm_le encI_l (L := K) (k := k) hlt
            omega
          by_cases hq : q = y
          · have e : idxI K q = (k : Int) := by
              unfold idxI
              rw [List.findIdx?_eq_some_iff_getElem.2 ⟨hlt, by rw [List.getElem?_eq_getElem hlt] at hy; simp at hy; simp [hy, hq], fun j hjl => by
                have := hj j hjl _ (List.getElem?_eq_getElem (by omega))
                simpa using this⟩]
            subst hq
            (try simp (config := { maxSteps := 10000000 }) only [go_sem, List.reduceReplicate, BitVec.reduceOfInt, BitVec.reduceToNat, BitVec.reduceToInt, BitVec.reduceEq, BitVec.reduceLT, BitVec.reduceLE, BitVec.reduceAdd, BitVec.reduceSub, BitVec.reduceMul, BitVec.reduceUDiv, BitVec.reduceUMod, BitVec.reduceAnd, BitVec.reduceOr, BitVec.reduceXOr, BitVec.reduceNot, BitVec.reduceNeg, BitVec.reduceHShiftLeft, BitVec.reduceHShiftRight, Nat.reduceAdd, Nat.reduceMul, Nat.reduceSub, Nat.reduceBEq, Nat.reduceEqDiff, Nat.reduceLeDiff, Nat.reduceLT, Int.reduceLE, Int.reduceLT, Int.reduceAdd, Int.reduceSub, Int.reduceMul, Int.reduceNeg, Int.reduceToNat, Int.reduceEq, ↓reduceIte, reduceCtorEq, kI, k0, hv1, b1, g1, e]; repeat (simp (disch := omega) only [w64_d, ipos, ineg, dpos, dneg]; try simp (config := { maxSteps := 10000000 }) only [go_sem, List.reduceReplicate, BitVec.reduceOfInt, BitVec.reduceToNat, BitVec.reduceToInt, BitVec.reduceEq, BitVec.reduceLT, BitVec.reduceLE, BitVec.reduceAdd, BitVec.reduceSub, BitVec.reduceMul, BitVec.reduceUDiv, BitVec.reduceUMod, BitVec.reduceAnd, BitVec.reduceOr, BitVec.reduceXOr, BitVec.reduceNot, BitVec.reduceNeg, BitVec.reduceHShiftLeft, BitVec.reduceHShiftRight, Nat.reduceAdd, Nat.reduceMul, Nat.reduceSub, Nat.reduceBEq, Nat.reduceEqDiff, Nat.reduceLeDiff, Nat.reduceLT, Int.reduceLE, Int.reduceLT, Int.reduceAdd, Int.reduceSub, Int.reduceMul, Int.reduceNeg, Int.reduceToNat, Int.reduceEq, ↓reduceIte, reduceCtorEq, kI, k0, hv1, b1, g1, e]))
            exact subH_refl _
          · (try simp (config := { maxSteps := 10000000 }) only [go_sem, List.reduceReplicate, BitVec.reduceOfInt, BitVec.reduceToNat, BitVec.reduceToInt, BitVec.reduceEq, BitVec.reduceLT, BitVec.reduceLE, BitVec.reduceAdd, BitVec.reduceSub, BitVec.reduceMul, BitVec.reduceUDiv, BitVec.reduceUMod, BitVec.reduceAnd, BitVec.reduceOr, BitVec.reduceXOr, BitVec.reduceNot, BitVec.reduceNeg, BitVec.reduceHShiftLeft, BitVec.reduceHShiftRight, Nat.reduceAdd, Nat.reduceMul, Nat.reduceSub, Nat.reduceBEq, Nat.reduceEqDiff, Nat.reduceLeDiff, Nat.reduceLT, Int.reduceLE, Int.reduceLT, Int.reduceAdd, Int.reduceSub, Int.reduceMul, Int.reduceNeg, Int.reduceToNat, Int.reduceEq, ↓reduceIte, reduceCtorEq, kI, k0, hv1, b1, g1, hq, e1]; repeat (simp (disch := omega) only [w64_d, ipos, ineg, dpos, dneg]; try simp (config := { maxSteps := 10000000 }) only [go_sem, List.reduceReplicate, BitVec.reduceOfInt, BitVec.reduceToNat, BitVec.reduceToInt, BitVec.reduceEq, BitVec.reduceLT, BitVec.reduceLE, BitVec.reduceAdd, BitVec.reduceSub, BitVec.reduceMul, BitVec.reduceUDiv, BitVec.reduceUMod, BitVec.reduceAnd, BitVec.reduceOr, BitVec.reduceXOr, BitVec.reduceNot, BitVec.reduceNeg, BitVec.reduceHShiftLeft, BitVec.reduceHShiftRight, Nat.reduceAdd, Nat.reduceMul, Nat.reduceSub, Nat.reduceBEq, Nat.reduceEqDiff, Nat.reduceLeDiff, Nat.reduceLT, Int.reduceLE, Int.reduceLT, Int.reduceAdd, Int.reduceSub, Int.reduceMul, Int.reduceNeg, Int.reduceToNat, Int.reduceEq, ↓reduceIte, reduceCtorEq, kI, k0, hv1, b1, g1, hq, e1]))
            exact ⟨⟨k + 1, by omega, fun j hj' z hz => by
              rcases Nat.lt_succ_iff_lt_or_eq.1 hj' with h' | rfl
              · exact hj j h' z hz
              · rw [hy] at hz; simp at hz; subst hz; exact hq⟩, by simp only; omega, Wk.wk (by simp [lo]) (by simp [Am.get]) (by simp only [List.all_cons, List.all_nil, Bool.and_true, Bool.and_eq_true, AV.bel]; exact ⟨bx, rfl, rfl, rfl⟩) (subH_refl _) hH⟩
      · simp at h
    · simp at h
  · simp at h
theorem idx_in (K : List Int) (k : Int) : decide (0 ≤ idxI K k) = decide (k ∈ K) := by
  unfold idxI
  cases h : K.findIdx? (fun x => decide (k = x)) with
  | none =>
    have := List.findIdx?_eq_none_iff.1 h
    have hn : ¬ k ∈ K := fun hk => by have := this k hk; simp at this
    simp [hn]
  | some i =>
    obtain ⟨hi, h1, _⟩ := List.findIdx?_eq_some_iff_getElem.1 h
    have hk : k ∈ K := by simp at h1; rw [h1]; exact List.getElem_mem hi
    simp [hk]
def s_econt (args : List AV) (H : AH) : Option AV :=
  match args with
  | [.c x, .c (.i k)] =>
    match slD 1 dcI H x with
    | some K => if K.length ≤ 1000000 then some (.c (.b (decide (k ∈ K)))) else none
    | none => none
  | _ => none
theorem s_econt_of {x : Sc} {H : AH} {K : List Int} {k : Int} (h : slD 1 dcI H x = some K) (hl : K.length ≤ 1000000) : s_econt [.c x, .c (.i k)] H = some (.c (.b (decide (k ∈ K)))) := by
  simp only [s_econt, h, hl, if_true]
set_option maxRecDepth 100000 in
set_option maxHeartbeats 2000000 in
theorem ok_econt : FpOk Try.prog 26 (fun args H => (s_econt args H).map fun v => (v, H)) := by
  refine fq_ok (s := s_econt) (tab := [(38, .fq s_eindex)]) hmix (TabOk.cons (e := .fq s_eindex) ok_eindex TabOk.nil) Try.func26 rfl Try.results26 Try.ntmps26 (by kernel_rfl) (by kernel_rfl) ?_
  intro args H v h hargs hH
  unfold s_econt at h
  split at h
  · rename_i x q
    split at h
    · rename_i K hK
      split at h
      · rename_i hn
        simp only [Option.some.injEq] at h
        subst h
        refine ⟨by simp only [List.length_cons, List.length_nil]; decide, rfl, ?_⟩
        have q1 := s_eindex_of (k := q) hK hn
        have q2 := idx_in K q
        (try simp (config := { maxSteps := 10000000 }) only [go_sem, List.reduceReplicate, BitVec.reduceOfInt, BitVec.reduceToNat, BitVec.reduceToInt, BitVec.reduceEq, BitVec.reduceLT, BitVec.reduceLE, BitVec.reduceAdd, BitVec.reduceSub, BitVec.reduceMul, BitVec.reduceUDiv, BitVec.reduceUMod, BitVec.reduceAnd, BitVec.reduceOr, BitVec.reduceXOr, BitVec.reduceNot, BitVec.reduceNeg, BitVec.reduceHShiftLeft, BitVec.reduceHShiftRight, Nat.reduceAdd, Nat.reduceMul, Nat.reduceSub, Nat.reduceBEq, Nat.reduceEqDiff, Nat.reduceLeDiff, Nat.reduceLT, Int.reduceLE, Int.reduceLT, Int.reduceAdd, Int.reduceSub, Int.reduceMul, Int.reduceNeg, Int.reduceToNat, Int.reduceEq, ↓reduceIte, reduceCtorEq, q1, q2]; repeat (simp (disch := omega) only [w64_d, ipos, ineg, dpos, dneg]; try simp (config := { maxSteps := 10000000 }) only [go_sem, List.reduceReplicate, BitVec.reduceOfInt, BitVec.reduceToNat, BitVec.reduceToInt, BitVec.reduceEq, BitVec.reduceLT, BitVec.reduceLE, BitVec.reduceAdd, BitVec.reduceSub, BitVec.reduceMul, BitVec.reduceUDiv, BitVec.reduceUMod, BitVec.reduceAnd, BitVec.reduceOr, BitVec.reduceXOr, BitVec.reduceNot, BitVec.reduceNeg, BitVec.reduceHShiftLeft, BitVec.reduceHShiftRight, Nat.reduceAdd, Nat.reduceMul, Nat.reduceSub, Nat.reduceBEq, Nat.reduceEqDiff, Nat.reduceLeDiff, Nat.reduceLT, Int.reduceLE, Int.reduceLT, Int.reduceAdd, Int.reduceSub, Int.reduceMul, Int.reduceNeg, Int.reduceToNat, Int.reduceEq, ↓reduceIte, reduceCtorEq, q1, q2]))
        exact subH_refl _
      · simp at h
    · simp at h
  · simp at h

end
end Go.Proofs.Ytamjmjllgmachaa
