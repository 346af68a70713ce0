/- The laws SplitJoins and SplitBack. -/
import Derived.Test.YtlkhmklmiompeaaS3
import Derived.Test.YtlkhmklmiompeaaFr
namespace Go.Proofs.Ytlkhmklmiompeaa
open Go.Am
set_option linter.unusedSimpArgs false
set_option linter.unusedVariables false
noncomputable section

theorem slD_app {α : Type} {w : Nat} {dc : List Sc → Option α} {H X : AH} {x : Sc} {L : List α} (h : slD w dc H x = some L) (hb : x.bel H.length = true) : slD w dc (H ++ X) x = some L := by
  cases x with
  | sl id off v n =>
    have lid : id < H.length := by simpa [Sc.bel] using hb
    cases off with
    | zero => simp only [slD] at h ⊢; rw [hg_lt' lid]; exact h
    | succ o => simp [slD] at h
  | _ => first | exact h | simp [slD] at h
theorem subH_2 {H : AH} {a b : AObj} : subH (H ++ [a]) (H ++ [a, b]) := by
  have := subH_app (H ++ [a]) [b]
  rw [List.append_assoc] at this
  exact this
def s_sjoins (args : List AV) (H : AH) : Option AV :=
  match args with
  | [.c (.u v), .c x, .c y] =>
    match slD 3 dcP H x, slD 1 dcU H y with
    | some l, some r => if (∀ p ∈ l, inR p.s) ∧ l.length ≤ 9223372036854775807 ∧ r.length ≤ 9223372036854775807 then some (.c (.b true)) else none
    | _, _ => none
  | _ => none
theorem s_sjoins_inv {args : List AV} {H : AH} {v : AV} (h : s_sjoins args H = some v) : ∃ u x y l r, args = [.c (.u u), .c x, .c y] ∧ slD 3 dcP H x = some l ∧ slD 1 dcU H y = some r ∧ (∀ p ∈ l, inR p.s) ∧ l.length ≤ 9223372036854775807 ∧ r.length ≤ 9223372036854775807 ∧ v = .c (.b true) := by
  unfold s_sjoins at h
  split at h
  · split at h
    · split at h
      · rename_i h1 h2 h3
        simp only [Option.some.injEq] at h
        exact ⟨_, _, _, _, _, rfl, h1, h2, h3.1, h3.2.1, h3.2.2, h.symm⟩
      · simp at h
    · simp at h
  · simp at h
set_option maxRecDepth 100000 in
set_option maxHeartbeats 2000000 in
theorem ok_sjoins : FpOk Try.prog 4 (fun args H => (s_sjoins args H).map fun v => (v, H)) := by
  refine fq_ok (s := s_sjoins) (tab := [(14, .pu s_slive), (15, .pu s_spart), (16, .pu s_rpart), (17, .fq s_sjoin), (18, .fq s_rjoin)]) hmix (TabOk.cons (e := .pu s_slive) ok_slive (TabOk.cons (e := .pu s_spart) ok_spart (TabOk.cons (e := .pu s_rpart) ok_rpart (TabOk.cons (e := .fq s_sjoin) ok_sjoin (TabOk.cons (e := .fq s_rjoin) ok_rjoin TabOk.nil))))) Try.func4 rfl Try.results4 Try.ntmps4 (by kernel_rfl) (by kernel_rfl) ?_
  intro args H v h hargs hH
  have hinv := s_sjoins_inv h
  obtain ⟨u, x, y, l, r, rfl, h1, h2, hir, h3, h4, rfl⟩ := hinv
  refine ⟨by simp only [List.length_cons, List.length_nil]; decide, rfl, ?_⟩
  have bx : x.bel H.length = true := by simp only [List.all_cons, AV.bel, Bool.and_eq_true] at hargs; exact hargs.2.1
  have byy : y.bel H.length = true := by simp only [List.all_cons, AV.bel, Bool.and_eq_true] at hargs; exact hargs.2.2.1
  have key : ∀ HH : AH, (∃ X, HH = H ++ [.vec 3 (l.flatMap encP)] ++ X) → l.length ≤ 20 → r.length ≤ 20 → s_sjoin [.c x, .c y] HH = some (.c (.u (jnU l r 0#64))) ∧ s_rjoin [.c (.sl H.length 0 (l.length * 3) l.length), .c y] HH = some (.c (.u (jnU l r 0#64))) := by
    rintro HH ⟨X, rfl⟩ hl hr
    refine ⟨s_sjoin_eq (slD_app (X := X) (slD_app h1 bx) ?_) (slD_app (X := X) (slD_app h2 byy) ?_) ⟨by omega, by omega⟩, s_rjoin_eq (slD_app (X := X) (slD_of encP_l dcP_e ?_ rfl ?_) ?_) (slD_app (X := X) (slD_app h2 byy) ?_) ⟨by omega, by omega, hir⟩⟩
    · exact Sc.bel_mono bx (by simp)
    · exact Sc.bel_mono byy (by simp)
    · rw [hg_len]; simp only [hg_zero, or_vec]; rw [fm_len encP_l]
    · rw [hg_len]; rfl
    · simp [Sc.bel]
    · exact Sc.bel_mono byy (by simp)
  have zz : ∀ HH : AH, slD 3 dcP HH .nils = some [] := fun _ => rfl
  rcases slD_inv dcP_d h1 with ⟨rfl, rfl⟩ | ⟨id, v, rfl, hv, hcs⟩
  · rcases slD_inv dcU_d h2 with ⟨rfl, rfl⟩ | ⟨id2, v2, rfl, hv2, hcs2⟩
    · (try simp (config := { maxSteps := 10000000 }) only [go_sem, List.reduceReplicate, BitVec.reduceOfInt, BitVec.reduceToNat, BitVec.reduceToInt, BitVec.reduceEq, BitVec.reduceLT, BitVec.reduceLE, BitVec.reduceAdd, BitVec.reduceSub, BitVec.reduceMul, BitVec.reduceUDiv, BitVec.reduceUMod, BitVec.reduceAnd, BitVec.reduceOr, BitVec.reduceXOr, BitVec.reduceNot, BitVec.reduceNeg, BitVec.reduceHShiftLeft, BitVec.reduceHShiftRight, Nat.reduceAdd, Nat.reduceMul, Nat.reduceSub, Nat.reduceBEq, Nat.reduceEqDiff, Nat.reduceLeDiff, Nat.reduceLT, Int.reduceLE, Int.reduceLT, Int.reduceAdd, Int.reduceSub, Int.reduceMul, Int.reduceNeg, Int.reduceToNat, Int.reduceEq, ↓reduceIte, reduceCtorEq, s_slive_eq, s_spart_eq, s_rpart_eq, s_sjoin_eq, s_rjoin_eq]; repeat (simp (disch := omega) only [w64_d, ipos, ineg, dpos, dneg]; try simp (config := { maxSteps := 10000000 }) only [go_sem, List.reduceReplicate, BitVec.reduceOfInt, BitVec.reduceToNat, BitVec.reduceToInt, BitVec.reduceEq, BitVec.reduceLT, BitVec.reduceLE, BitVec.reduceAdd, BitVec.reduceSub, BitVec.reduceMul, BitVec.reduceUDiv, BitVec.reduceUMod, BitVec.reduceAnd, BitVec.reduceOr, BitVec.reduceXOr, BitVec.reduceNot, BitVec.reduceNeg, BitVec.reduceHShiftLeft, BitVec.reduceHShiftRight, Nat.reduceAdd, Nat.reduceMul, Nat.reduceSub, Nat.reduceBEq, Nat.reduceEqDiff, Nat.reduceLeDiff, Nat.reduceLT, Int.reduceLE, Int.reduceLT, Int.reduceAdd, Int.reduceSub, Int.reduceMul, Int.reduceNeg, Int.reduceToNat, Int.reduceEq, ↓reduceIte, reduceCtorEq, s_slive_eq, s_spart_eq, s_rpart_eq, s_sjoin_eq, s_rjoin_eq]))
      rw [arun_loop]
      refine ⟨Unit, fun _ => ([(0, .c (.u u)), (1, .c .nils), (2, .c .nils), (7, .c .nils), (8, .c (.i 0))], H), fun _ => 0, (), Wk.wk (by simp [lo]) (by simp [Am.get]) (by simp [AV.bel, Sc.bel]) (subH_refl _) hH, fun _ => ?_⟩
      have k1 := s_sjoin_eq (H := H) (x := .nils) (y := .nils) (l := []) (r := []) rfl rfl ⟨by decide, by decide⟩
      have k2 := s_rjoin_eq (H := H) (x := .nils) (y := .nils) (l := []) (r := []) rfl rfl ⟨by decide, by decide, by simp⟩
      (try simp (config := { maxSteps := 10000000 }) only [go_sem, List.reduceReplicate, BitVec.reduceOfInt, BitVec.reduceToNat, BitVec.reduceToInt, BitVec.reduceEq, BitVec.reduceLT, BitVec.reduceLE, BitVec.reduceAdd, BitVec.reduceSub, BitVec.reduceMul, BitVec.reduceUDiv, BitVec.reduceUMod, BitVec.reduceAnd, BitVec.reduceOr, BitVec.reduceXOr, BitVec.reduceNot, BitVec.reduceNeg, BitVec.reduceHShiftLeft, BitVec.reduceHShiftRight, Nat.reduceAdd, Nat.reduceMul, Nat.reduceSub, Nat.reduceBEq, Nat.reduceEqDiff, Nat.reduceLeDiff, Nat.reduceLT, Int.reduceLE, Int.reduceLT, Int.reduceAdd, Int.reduceSub, Int.reduceMul, Int.reduceNeg, Int.reduceToNat, Int.reduceEq, ↓reduceIte, reduceCtorEq, s_slive_eq, k1, k2]; repeat (simp (disch := omega) only [w64_d, ipos, ineg, dpos, dneg]; try simp (config := { maxSteps := 10000000 }) only [go_sem, List.reduceReplicate, BitVec.reduceOfInt, BitVec.reduceToNat, BitVec.reduceToInt, BitVec.reduceEq, BitVec.reduceLT, BitVec.reduceLE, BitVec.reduceAdd, BitVec.reduceSub, BitVec.reduceMul, BitVec.reduceUDiv, BitVec.reduceUMod, BitVec.reduceAnd, BitVec.reduceOr, BitVec.reduceXOr, BitVec.reduceNot, BitVec.reduceNeg, BitVec.reduceHShiftLeft, BitVec.reduceHShiftRight, Nat.reduceAdd, Nat.reduceMul, Nat.reduceSub, Nat.reduceBEq, Nat.reduceEqDiff, Nat.reduceLeDiff, Nat.reduceLT, Int.reduceLE, Int.reduceLT, Int.reduceAdd, Int.reduceSub, Int.reduceMul, Int.reduceNeg, Int.reduceToNat, Int.reduceEq, ↓reduceIte, reduceCtorEq, s_slive_eq, k1, k2]))
      exact subH_refl _
    · by_cases hr : r.length ≤ 20
      · (try simp (config := { maxSteps := 10000000 }) only [go_sem, List.reduceReplicate, BitVec.reduceOfInt, BitVec.reduceToNat, BitVec.reduceToInt, BitVec.reduceEq, BitVec.reduceLT, BitVec.reduceLE, BitVec.reduceAdd, BitVec.reduceSub, BitVec.reduceMul, BitVec.reduceUDiv, BitVec.reduceUMod, BitVec.reduceAnd, BitVec.reduceOr, BitVec.reduceXOr, BitVec.reduceNot, BitVec.reduceNeg, BitVec.reduceHShiftLeft, BitVec.reduceHShiftRight, Nat.reduceAdd, Nat.reduceMul, Nat.reduceSub, Nat.reduceBEq, Nat.reduceEqDiff, Nat.reduceLeDiff, Nat.reduceLT, Int.reduceLE, Int.reduceLT, Int.reduceAdd, Int.reduceSub, Int.reduceMul, Int.reduceNeg, Int.reduceToNat, Int.reduceEq, ↓reduceIte, reduceCtorEq, s_slive_eq, s_spart_eq, s_rpart_eq, s_sjoin_eq, s_rjoin_eq]; repeat (simp (disch := omega) only [w64_d, ipos, ineg, dpos, dneg]; try simp (config := { maxSteps := 10000000 }) only [go_sem, List.reduceReplicate, BitVec.reduceOfInt, BitVec.reduceToNat, BitVec.reduceToInt, BitVec.reduceEq, BitVec.reduceLT, BitVec.reduceLE, BitVec.reduceAdd, BitVec.reduceSub, BitVec.reduceMul, BitVec.reduceUDiv, BitVec.reduceUMod, BitVec.reduceAnd, BitVec.reduceOr, BitVec.reduceXOr, BitVec.reduceNot, BitVec.reduceNeg, BitVec.reduceHShiftLeft, BitVec.reduceHShiftRight, Nat.reduceAdd, Nat.reduceMul, Nat.reduceSub, Nat.reduceBEq, Nat.reduceEqDiff, Nat.reduceLeDiff, Nat.reduceLT, Int.reduceLE, Int.reduceLT, Int.reduceAdd, Int.reduceSub, Int.reduceMul, Int.reduceNeg, Int.reduceToNat, Int.reduceEq, ↓reduceIte, reduceCtorEq, s_slive_eq, s_spart_eq, s_rpart_eq, s_sjoin_eq, s_rjoin_eq]))
        rw [arun_loop]
        have lid2 : id2 < H.length := by simpa [Sc.bel] using byy
        refine ⟨Unit, fun _ => ([(0, .c (.u u)), (1, .c .nils), (2, .c (.sl id2 0 v2 r.length)), (7, .c .nils), (8, .c (.i 0))], H), fun _ => 0, (), Wk.wk (by simp [lo]) (by simp [Am.get]) (by simp [AV.bel, Sc.bel, lid2]) (subH_refl _) hH, fun _ => ?_⟩
        have k1 := s_sjoin_eq (H := H) (x := .nils) (l := []) rfl h2 ⟨by decide, by omega⟩
        have k2 := s_rjoin_eq (H := H) (x := .nils) (l := []) rfl h2 ⟨by decide, by omega, by simp⟩
        (try simp (config := { maxSteps := 10000000 }) only [go_sem, List.reduceReplicate, BitVec.reduceOfInt, BitVec.reduceToNat, BitVec.reduceToInt, BitVec.reduceEq, BitVec.reduceLT, BitVec.reduceLE, BitVec.reduceAdd, BitVec.reduceSub, BitVec.reduceMul, BitVec.reduceUDiv, BitVec.reduceUMod, BitVec.reduceAnd, BitVec.reduceOr, BitVec.reduceXOr, BitVec.reduceNot, BitVec.reduceNeg, BitVec.reduceHShiftLeft, BitVec.reduceHShiftRight, Nat.reduceAdd, Nat.reduceMul, Nat.reduceSub, Nat.reduceBEq, Nat.reduceEqDiff, Nat.reduceLeDiff, Nat.reduceLT, Int.reduceLE, Int.reduceLT, Int.reduceAdd, Int.reduceSub, Int.reduceMul, Int.reduceNeg, Int.reduceToNat, Int.reduceEq, ↓reduceIte, reduceCtorEq, s_slive_eq, k1, k2]; repeat (simp (disch := omega) only [w64_d, ipos, ineg, dpos, dneg]; try simp (config := { maxSteps := 10000000 }) only [go_sem, List.reduceReplicate, BitVec.reduceOfInt, BitVec.reduceToNat, BitVec.reduceToInt, BitVec.reduceEq, BitVec.reduceLT, BitVec.reduceLE, BitVec.reduceAdd, BitVec.reduceSub, BitVec.reduceMul, BitVec.reduceUDiv, BitVec.reduceUMod, BitVec.reduceAnd, BitVec.reduceOr, BitVec.reduceXOr, BitVec.reduceNot, BitVec.reduceNeg, BitVec.reduceHShiftLeft, BitVec.reduceHShiftRight, Nat.reduceAdd, Nat.reduceMul, Nat.reduceSub, Nat.reduceBEq, Nat.reduceEqDiff, Nat.reduceLeDiff, Nat.reduceLT, Int.reduceLE, Int.reduceLT, Int.reduceAdd, Int.reduceSub, Int.reduceMul, Int.reduceNeg, Int.reduceToNat, Int.reduceEq, ↓reduceIte, reduceCtorEq, s_slive_eq, k1, k2]))
        exact subH_refl _
      · have t1 : (20 : Int) < (r.length : Int) := by omega
        (try simp (config := { maxSteps := 10000000 }) only [go_sem, List.reduceReplicate, BitVec.reduceOfInt, BitVec.reduceToNat, BitVec.reduceToInt, BitVec.reduceEq, BitVec.reduceLT, BitVec.reduceLE, BitVec.reduceAdd, BitVec.reduceSub, BitVec.reduceMul, BitVec.reduceUDiv, BitVec.reduceUMod, BitVec.reduceAnd, BitVec.reduceOr, BitVec.reduceXOr, BitVec.reduceNot, BitVec.reduceNeg, BitVec.reduceHShiftLeft, BitVec.reduceHShiftRight, Nat.reduceAdd, Nat.reduceMul, Nat.reduceSub, Nat.reduceBEq, Nat.reduceEqDiff, Nat.reduceLeDiff, Nat.reduceLT, Int.reduceLE, Int.reduceLT, Int.reduceAdd, Int.reduceSub, Int.reduceMul, Int.reduceNeg, Int.reduceToNat, Int.reduceEq, ↓reduceIte, reduceCtorEq, s_slive_eq, t1]; repeat (simp (disch := omega) only [w64_d, ipos, ineg, dpos, dneg]; try simp (config := { maxSteps := 10000000 }) only [go_sem, List.reduceReplicate, BitVec.reduceOfInt, BitVec.reduceToNat, BitVec.reduceToInt, BitVec.reduceEq, BitVec.reduceLT, BitVec.reduceLE, BitVec.reduceAdd, BitVec.reduceSub, BitVec.reduceMul, BitVec.reduceUDiv, BitVec.reduceUMod, BitVec.reduceAnd, BitVec.reduceOr, BitVec.reduceXOr, BitVec.reduceNot, BitVec.reduceNeg, BitVec.reduceHShiftLeft, BitVec.reduceHShiftRight, Nat.reduceAdd, Nat.reduceMul, Nat.reduceSub, Nat.reduceBEq, Nat.reduceEqDiff, Nat.reduceLeDiff, Nat.reduceLT, Int.reduceLE, Int.reduceLT, Int.reduceAdd, Int.reduceSub, Int.reduceMul, Int.reduceNeg, Int.reduceToNat, Int.reduceEq, ↓reduceIte, reduceCtorEq, s_slive_eq, t1]))
        exact subH_refl _
  · have lid : id < H.length := by simpa [Sc.bel] using bx
    by_cases hl : l.length ≤ 20
    · by_cases hr : r.length ≤ 20
      · have yl : ∀ e, lenB (.sl e) (.c y) = some (.c (.i r.length)) := by
          intro e
          rcases slD_inv dcU_d h2 with ⟨rfl, rfl⟩ | ⟨id2, v2, rfl, hv2, hcs2⟩ <;> rfl
        (try simp (config := { maxSteps := 10000000 }) only [go_sem, List.reduceReplicate, BitVec.reduceOfInt, BitVec.reduceToNat, BitVec.reduceToInt, BitVec.reduceEq, BitVec.reduceLT, BitVec.reduceLE, BitVec.reduceAdd, BitVec.reduceSub, BitVec.reduceMul, BitVec.reduceUDiv, BitVec.reduceUMod, BitVec.reduceAnd, BitVec.reduceOr, BitVec.reduceXOr, BitVec.reduceNot, BitVec.reduceNeg, BitVec.reduceHShiftLeft, BitVec.reduceHShiftRight, Nat.reduceAdd, Nat.reduceMul, Nat.reduceSub, Nat.reduceBEq, Nat.reduceEqDiff, Nat.reduceLeDiff, Nat.reduceLT, Int.reduceLE, Int.reduceLT, Int.reduceAdd, Int.reduceSub, Int.reduceMul, Int.reduceNeg, Int.reduceToNat, Int.reduceEq, ↓reduceIte, reduceCtorEq, yl]; repeat (simp (disch := omega) only [w64_d, ipos, ineg, dpos, dneg]; try simp (config := { maxSteps := 10000000 }) only [go_sem, List.reduceReplicate, BitVec.reduceOfInt, BitVec.reduceToNat, BitVec.reduceToInt, BitVec.reduceEq, BitVec.reduceLT, BitVec.reduceLE, BitVec.reduceAdd, BitVec.reduceSub, BitVec.reduceMul, BitVec.reduceUDiv, BitVec.reduceUMod, BitVec.reduceAnd, BitVec.reduceOr, BitVec.reduceXOr, BitVec.reduceNot, BitVec.reduceNeg, BitVec.reduceHShiftLeft, BitVec.reduceHShiftRight, Nat.reduceAdd, Nat.reduceMul, Nat.reduceSub, Nat.reduceBEq, Nat.reduceEqDiff, Nat.reduceLeDiff, Nat.reduceLT, Int.reduceLE, Int.reduceLT, Int.reduceAdd, Int.reduceSub, Int.reduceMul, Int.reduceNeg, Int.reduceToNat, Int.reduceEq, ↓reduceIte, reduceCtorEq, yl]))
        refine arun_for l.length (fun k => ([(0, .c (.u u)), (1, .c (.sl id 0 v l.length)), (2, .c y), (7, .c (.sl H.length 0 (k * 3) k)), (8, .c (.i k))], H ++ [.vec 3 ((l.take k).flatMap encP)])) ?_ fun k hk => ?_
        · exact Wk.trans (Wk.nil 7 3 (by decide) rfl (Nat.le_refl _)) (Wk.wk (by simp [lo]) (by simp [Am.get]) (by simp [AV.bel, Sc.bel]; exact ⟨by omega, Sc.bel_mono byy (by omega)⟩) (by simpa using subH_refl _) (bel_app hH (by rfl)))
        · have bk : belH (H ++ [.vec 3 ((l.take k).flatMap encP)]) = true := bel_app hH (pf_bel _ (by show ((l.take k).flatMap encP).all Sc.pf = true; simp [List.all_flatMap, encP, Sc.pf]))
          by_cases hlt : k < l.length
          · obtain ⟨p, hp⟩ : ∃ p, l[k]? = some p := ⟨_, List.getElem?_eq_getElem hlt⟩
            have e1 : w64 ((k : Int) + 1) = ((k + 1 : Nat) : Int) := by rw [w64_of (by omega)]; omega
            have g1 := fm_le encP_l (L := l) (k := k) hlt
            have g3 := pc_row hp
            rw [← hcs] at g1 g3
            have hv := hv.symm
            have gx : ∀ X, hg (H ++ X) id = hg H id := fun X => hg_lt' lid
            have ht : (l.take (k + 1)).flatMap encP = (l.take k).flatMap encP ++ [.u p.a, .i p.n, .i p.s] := by rw [List.take_add_one, hp, Option.toList_some, List.flatMap_append, List.flatMap_singleton]; rfl
            have g9 : ((l.take k).flatMap encP ++ [Sc.u p.a, Sc.i p.n, Sc.i p.s]).drop (k * 3) = [.u p.a, .i p.n, .i p.s] := by rw [List.drop_append_of_le_length (by rw [fm_len encP_l, List.length_take, Nat.min_eq_left (by omega)]; omega), List.drop_of_length_le (by rw [fm_len encP_l, List.length_take, Nat.min_eq_left (by omega)]; omega)]; rfl
            have tl : ((l.take k).flatMap encP).length = k * 3 := by rw [fm_len encP_l, List.length_take, Nat.min_eq_left (by omega)]
            have ir := hir p (List.mem_of_getElem? hp)
            (try simp (config := { maxSteps := 10000000 }) only [go_sem, List.reduceReplicate, BitVec.reduceOfInt, BitVec.reduceToNat, BitVec.reduceToInt, BitVec.reduceEq, BitVec.reduceLT, BitVec.reduceLE, BitVec.reduceAdd, BitVec.reduceSub, BitVec.reduceMul, BitVec.reduceUDiv, BitVec.reduceUMod, BitVec.reduceAnd, BitVec.reduceOr, BitVec.reduceXOr, BitVec.reduceNot, BitVec.reduceNeg, BitVec.reduceHShiftLeft, BitVec.reduceHShiftRight, Nat.reduceAdd, Nat.reduceMul, Nat.reduceSub, Nat.reduceBEq, Nat.reduceEqDiff, Nat.reduceLeDiff, Nat.reduceLT, Int.reduceLE, Int.reduceLT, Int.reduceAdd, Int.reduceSub, Int.reduceMul, Int.reduceNeg, Int.reduceToNat, Int.reduceEq, ↓reduceIte, reduceCtorEq, s_slive_eq, s_spart_eq, s_rpart_eq, s_sjoin_eq, s_rjoin_eq, e1, gx, g1, hv, g3, g9, ir, encP, List.take_succ_cons, List.take_zero, tl]; repeat (simp (disch := omega) only [w64_d, ipos, ineg, dpos, dneg]; try simp (config := { maxSteps := 10000000 }) only [go_sem, List.reduceReplicate, BitVec.reduceOfInt, BitVec.reduceToNat, BitVec.reduceToInt, BitVec.reduceEq, BitVec.reduceLT, BitVec.reduceLE, BitVec.reduceAdd, BitVec.reduceSub, BitVec.reduceMul, BitVec.reduceUDiv, BitVec.reduceUMod, BitVec.reduceAnd, BitVec.reduceOr, BitVec.reduceXOr, BitVec.reduceNot, BitVec.reduceNeg, BitVec.reduceHShiftLeft, BitVec.reduceHShiftRight, Nat.reduceAdd, Nat.reduceMul, Nat.reduceSub, Nat.reduceBEq, Nat.reduceEqDiff, Nat.reduceLeDiff, Nat.reduceLT, Int.reduceLE, Int.reduceLT, Int.reduceAdd, Int.reduceSub, Int.reduceMul, Int.reduceNeg, Int.reduceToNat, Int.reduceEq, ↓reduceIte, reduceCtorEq, s_slive_eq, s_spart_eq, s_rpart_eq, s_sjoin_eq, s_rjoin_eq, e1, gx, g1, hv, g3, g9, ir, encP, List.take_succ_cons, List.take_zero, tl]))
            have bk1 : belH (H ++ [.vec 3 ((l.take (k + 1)).flatMap encP)]) = true := bel_app hH (pf_bel _ (by show ((l.take (k + 1)).flatMap encP).all Sc.pf = true; simp [List.all_flatMap, encP, Sc.pf]))
            exact ⟨k + 1, by omega, by omega, Wk.wk (by simp [lo]) (by simp [Am.get, Nat.add_mul]) (by simp [AV.bel, Sc.bel]; exact ⟨by omega, Sc.bel_mono byy (by omega)⟩) (by rw [ht]; exact subH_2) bk1⟩
          · obtain rfl : k = l.length := by omega
            obtain ⟨k1, k2⟩ := key (H ++ [.vec 3 (l.flatMap encP)]) ⟨[], by simp⟩ hl hr
            (try simp (config := { maxSteps := 10000000 }) only [go_sem, List.reduceReplicate, BitVec.reduceOfInt, BitVec.reduceToNat, BitVec.reduceToInt, BitVec.reduceEq, BitVec.reduceLT, BitVec.reduceLE, BitVec.reduceAdd, BitVec.reduceSub, BitVec.reduceMul, BitVec.reduceUDiv, BitVec.reduceUMod, BitVec.reduceAnd, BitVec.reduceOr, BitVec.reduceXOr, BitVec.reduceNot, BitVec.reduceNeg, BitVec.reduceHShiftLeft, BitVec.reduceHShiftRight, Nat.reduceAdd, Nat.reduceMul, Nat.reduceSub, Nat.reduceBEq, Nat.reduceEqDiff, Nat.reduceLeDiff, Nat.reduceLT, Int.reduceLE, Int.reduceLT, Int.reduceAdd, Int.reduceSub, Int.reduceMul, Int.reduceNeg, Int.reduceToNat, Int.reduceEq, ↓reduceIte, reduceCtorEq, s_slive_eq, List.take_length, k1, k2]; repeat (simp (disch := omega) only [w64_d, ipos, ineg, dpos, dneg]; try simp (config := { maxSteps := 10000000 }) only [go_sem, List.reduceReplicate, BitVec.reduceOfInt, BitVec.reduceToNat, BitVec.reduceToInt, BitVec.reduceEq, BitVec.reduceLT, BitVec.reduceLE, BitVec.reduceAdd, BitVec.reduceSub, BitVec.reduceMul, BitVec.reduceUDiv, BitVec.reduceUMod, BitVec.reduceAnd, BitVec.reduceOr, BitVec.reduceXOr, BitVec.reduceNot, BitVec.reduceNeg, BitVec.reduceHShiftLeft, BitVec.reduceHShiftRight, Nat.reduceAdd, Nat.reduceMul, Nat.reduceSub, Nat.reduceBEq, Nat.reduceEqDiff, Nat.reduceLeDiff, Nat.reduceLT, Int.reduceLE, Int.reduceLT, Int.reduceAdd, Int.reduceSub, Int.reduceMul, Int.reduceNeg, Int.reduceToNat, Int.reduceEq, ↓reduceIte, reduceCtorEq, s_slive_eq, List.take_length, k1, k2]))
            exact subH_app _ _
      · have yl : ∀ e, lenB (.sl e) (.c y) = some (.c (.i r.length)) := by
          intro e
          rcases slD_inv dcU_d h2 with ⟨rfl, rfl⟩ | ⟨id2, v2, rfl, hv2, hcs2⟩ <;> rfl
        (try simp (config := { maxSteps := 10000000 }) only [go_sem, List.reduceReplicate, BitVec.reduceOfInt, BitVec.reduceToNat, BitVec.reduceToInt, BitVec.reduceEq, BitVec.reduceLT, BitVec.reduceLE, BitVec.reduceAdd, BitVec.reduceSub, BitVec.reduceMul, BitVec.reduceUDiv, BitVec.reduceUMod, BitVec.reduceAnd, BitVec.reduceOr, BitVec.reduceXOr, BitVec.reduceNot, BitVec.reduceNeg, BitVec.reduceHShiftLeft, BitVec.reduceHShiftRight, Nat.reduceAdd, Nat.reduceMul, Nat.reduceSub, Nat.reduceBEq, Nat.reduceEqDiff, Nat.reduceLeDiff, Nat.reduceLT, Int.reduceLE, Int.reduceLT, Int.reduceAdd, Int.reduceSub, Int.reduceMul, Int.reduceNeg, Int.reduceToNat, Int.reduceEq, ↓reduceIte, reduceCtorEq, s_slive_eq, s_spart_eq, s_rpart_eq, s_sjoin_eq, s_rjoin_eq, yl]; repeat (simp (disch := omega) only [w64_d, ipos, ineg, dpos, dneg]; try simp (config := { maxSteps := 10000000 }) only [go_sem, List.reduceReplicate, BitVec.reduceOfInt, BitVec.reduceToNat, BitVec.reduceToInt, BitVec.reduceEq, BitVec.reduceLT, BitVec.reduceLE, BitVec.reduceAdd, BitVec.reduceSub, BitVec.reduceMul, BitVec.reduceUDiv, BitVec.reduceUMod, BitVec.reduceAnd, BitVec.reduceOr, BitVec.reduceXOr, BitVec.reduceNot, BitVec.reduceNeg, BitVec.reduceHShiftLeft, BitVec.reduceHShiftRight, Nat.reduceAdd, Nat.reduceMul, Nat.reduceSub, Nat.reduceBEq, Nat.reduceEqDiff, Nat.reduceLeDiff, Nat.reduceLT, Int.reduceLE, Int.reduceLT, Int.reduceAdd, Int.reduceSub, Int.reduceMul, Int.reduceNeg, Int.reduceToNat, Int.reduceEq, ↓reduceIte, reduceCtorEq, s_slive_eq, s_spart_eq, s_rpart_eq, s_sjoin_eq, s_rjoin_eq, yl]))
        exact subH_refl _
    · (try simp (config := { maxSteps := 10000000 }) only [go_sem, List.reduceReplicate, BitVec.reduceOfInt, BitVec.reduceToNat, BitVec.reduceToInt, BitVec.reduceEq, BitVec.reduceLT, BitVec.reduceLE, BitVec.reduceAdd, BitVec.reduceSub, BitVec.reduceMul, BitVec.reduceUDiv, BitVec.reduceUMod, BitVec.reduceAnd, BitVec.reduceOr, BitVec.reduceXOr, BitVec.reduceNot, BitVec.reduceNeg, BitVec.reduceHShiftLeft, BitVec.reduceHShiftRight, Nat.reduceAdd, Nat.reduceMul, Nat.reduceSub, Nat.reduceBEq, Nat.reduceEqDiff, Nat.reduceLeDiff, Nat.reduceLT, Int.reduceLE, Int.reduceLT, Int.reduceAdd, Int.reduceSub, Int.reduceMul, Int.reduceNeg, Int.reduceToNat, Int.reduceEq, ↓reduceIte, reduceCtorEq, s_slive_eq]; repeat (simp (disch := omega) only [w64_d, ipos, ineg, dpos, dneg]; try simp (config := { maxSteps := 10000000 }) only [go_sem, List.reduceReplicate, BitVec.reduceOfInt, BitVec.reduceToNat, BitVec.reduceToInt, BitVec.reduceEq, BitVec.reduceLT, BitVec.reduceLE, BitVec.reduceAdd, BitVec.reduceSub, BitVec.reduceMul, BitVec.reduceUDiv, BitVec.reduceUMod, BitVec.reduceAnd, BitVec.reduceOr, BitVec.reduceXOr, BitVec.reduceNot, BitVec.reduceNeg, BitVec.reduceHShiftLeft, BitVec.reduceHShiftRight, Nat.reduceAdd, Nat.reduceMul, Nat.reduceSub, Nat.reduceBEq, Nat.reduceEqDiff, Nat.reduceLeDiff, Nat.reduceLT, Int.reduceLE, Int.reduceLT, Int.reduceAdd, Int.reduceSub, Int.reduceMul, Int.reduceNeg, Int.reduceToNat, Int.reduceEq, ↓reduceIte, reduceCtorEq, s_slive_eq]))
      exact subH_refl _

theorem sig_sjoins (avs : List AV) (H : AH) (h : SigA [.fl false [.n .u64], .sl [.n .u64, .n .i64, .n .i64], .sl [.n .u64]] avs H) : s_sjoins avs H = some (.c (.b true)) := by
  obtain ⟨s0, r0, rfl, k0, h1⟩ := sig_c h
  obtain ⟨u, rfl⟩ := fk_u k0
  obtain ⟨x, r1, rfl, h2, l, hl, hp, hn⟩ := sig_row (f := encP) (w := 3) (dc := dcP) (p := fun p => inR p.s) (fun cs hcs => by
    obtain ⟨a, _, rfl, ka, g⟩ := fit_cons hcs
    obtain ⟨b, _, rfl, kb, g⟩ := fit_cons g
    obtain ⟨c, _, rfl, kc, g⟩ := fit_cons g
    obtain rfl := fit_nil g
    obtain ⟨a, rfl⟩ := fk_u ka
    obtain ⟨b, rfl, _⟩ := fk_i kb
    obtain ⟨c, rfl, c1, c2⟩ := fk_i kc
    exact ⟨⟨a, b, c⟩, rfl, c1, c2⟩) encP_l dcP_e h1
  obtain ⟨y, r2, rfl, h3, r, hr, _, hm⟩ := sig_row (f := encU) (w := 1) (dc := dcU) (p := fun _ => True) (fun cs hcs => by
    obtain ⟨a, _, rfl, ka, g⟩ := fit_cons hcs
    obtain rfl := fit_nil g
    obtain ⟨a, rfl⟩ := fk_u ka
    exact ⟨a, rfl, trivial⟩) encU_l dcU_e h2
  obtain rfl := sig_nil h3
  simp only [s_sjoins, hl, hr]
  rw [if_pos ⟨hp, hn, hm⟩]

end
end Go.Proofs.Ytlkhmklmiompeaa
