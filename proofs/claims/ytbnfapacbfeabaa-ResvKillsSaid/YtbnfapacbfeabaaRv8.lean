/- Layer 13: the statements. -/
import Derived.Test.YtbnfapacbfeabaaRv7
namespace Go.Proofs.Ytbnfapacbfeabaa
open Go.Am
set_option linter.unusedSimpArgs false
set_option linter.unusedVariables false
noncomputable section

def fR (L : List Rd) (n : Nat) : List Sl := (L.take n).foldl doR Z8
theorem fR_wf {L : List Rd} {n : Nat} : wfR (fR L n) := by
  unfold fR
  have : ∀ (M : List Rd) (R : List Sl), wfR R → wfR (M.foldl doR R) := by
    intro M
    induction M with
    | nil => intro R h; exact h
    | cons d M ih => intro R h; exact ih _ (wfR_do h)
  exact this _ _ wfR_Z
theorem fR_succ {L : List Rd} {n : Nat} {d : Rd} (h : L[n]? = some d) : fR L (n + 1) = doR (fR L n) d := by
  unfold fR
  rw [List.take_add_one, h, List.foldl_append]; rfl
theorem do_at {K X : AH} {R : List Sl} {d : Rd} (hR : R.length = 8) : s_vdo [.c (.p K.length 0 0), .g (refC R), .g (encRd d)] (K ++ .own (tabC R) :: X) = some (.t [.g (refC (doR R d)), .c (.b true)], K ++ .own (tabC (doR R d)) :: X) := by
  rw [s_vdo_eq (tabP_of (by rw [hg_len]; rfl) hR)]
  simp only [setP]
  rw [List.set_append_right _ _ (Nat.le_refl _), Nat.sub_self]; rfl
theorem nvw_pre {H X Y : AH} (h : nvw X Y) : nvw (H ++ X) (H ++ Y) := fun i h1 h2 => by
  rcases Nat.lt_or_ge i H.length with hl | hl
  · rw [hg_lt' hl, hg_lt' hl]
  · obtain ⟨m, rfl⟩ : ∃ m, i = H.length + m := ⟨i - H.length, by omega⟩
    rw [hg_len_add] at h1 h2 ⊢
    rw [hg_len_add]
    exact h m h1 h2
theorem nvw_own2 {a b : List Sc} {A B C : AObj} : nvw [A, B, .own a, C] [A, B, .own b, C] := fun i h1 h2 => by
  match i with
  | 0 => rfl
  | 1 => rfl
  | 2 => exact absurd (show true = false from h2) (by decide)
  | 3 => rfl
  | n + 4 => rfl
theorem nvw_own0 {a b : List Sc} {C : AObj} : nvw [.own a, C] [.own b, C] := fun i h1 h2 => by
  match i with
  | 0 => exact absurd (show true = false from h2) (by decide)
  | 1 => rfl
  | n + 2 => rfl
def s_vplay (args : List AV) (H : AH) : Option AV :=
  match args with
  | [.c x, .c (.u q)] =>
    match slD 3 dcRd H x with
    | some L => if L.length ≤ 9223372036854775807 then some (.c (.b true)) else none
    | none => none
  | _ => none
set_option maxHeartbeats 4000000 in
set_option maxRecDepth 100000 in
set_option maxHeartbeats 2000000 in
theorem ok_vplay : FpOk Try.prog 4 (fun args H => (s_vplay args H).map fun v => (v, H)) := by
  refine fq_ok (s := s_vplay) (tab := [(9, .fp s_vset), (10, .fp s_vclear), (11, .fq s_vhas), (7, .fp s_vkill), (12, .fp s_vwho), (13, .fp s_vlines), (5, .pu s_vlive), (6, .fp s_vdo), (14, .fq s_rvsame)]) hmix (TabOk.cons (e := .fp s_vset) ok_vset (TabOk.cons (e := .fp s_vclear) ok_vclear (TabOk.cons (e := .fq s_vhas) ok_vhas (TabOk.cons (e := .fp s_vkill) ok_vkill (TabOk.cons (e := .fp s_vwho) ok_vwho (TabOk.cons (e := .fp s_vlines) ok_vlines (TabOk.cons (e := .pu s_vlive) ok_vlive (TabOk.cons (e := .fp s_vdo) ok_vdo (TabOk.cons (e := .fq s_rvsame) ok_rvsame TabOk.nil))))))))) Try.func4 rfl Try.results4 Try.ntmps4 (by kernel_rfl) (by kernel_rfl) ?_
  intro args H v h hargs hH
  unfold s_vplay at h
  split at h
  · rename_i x q
    split at h
    · rename_i L hL
      split at h
      · rename_i hc
        simp only [Option.some.injEq] at h
        subst h
        refine ⟨by simp only [List.length_cons, List.length_nil]; decide, rfl, ?_⟩
        have bx : x.bel H.length = true := by simp only [List.all_cons, AV.bel, Bool.and_eq_true] at hargs; exact hargs.1
        have hx := slD_inv dcRd_d hL
        have xl : ∀ e, lenB (.sl e) (.c x) = some (.c (.i L.length)) := by
          intro e
          rcases hx with ⟨rfl, rfl⟩ | ⟨id2, v2, rfl, hv2, hcs2⟩ <;> rfl
        have n1 := fun H h l => @s_vset_nil H h l
        have n2 := fun H h => @s_vclear_nil H h
        have n3 := fun H h l => @s_vhas_nil H h l
        have n4 := fun H l b => @s_vkill_nil H l b
        have n5 := fun H l => s_vwho_eq (H := H) (x := .nilp) (l := l) (r := none) rfl
        have n6 := fun H => s_vlines_eq (H := H) (x := .nilp) (r := none) rfl
        simp only [whoO, linO, List.length_nil, List.map_nil] at n5 n6
        by_cases h100 : (100 : Int) < (L.length : Int)
        · (try simp (config := { maxSteps := 10000000 }) only [go_sem, List.reduceReplicate, BitVec.reduceOfInt, BitVec.reduceToNat, BitVec.reduceToInt, BitVec.reduceEq, BitVec.reduceLT, BitVec.reduceLE, BitVec.reduceAdd, BitVec.reduceSub, BitVec.reduceMul, BitVec.reduceUDiv, BitVec.reduceUMod, BitVec.reduceAnd, BitVec.reduceOr, BitVec.reduceXOr, BitVec.reduceNot, BitVec.reduceNeg, BitVec.reduceHShiftLeft, BitVec.reduceHShiftRight, Nat.reduceAdd, Nat.reduceMul, Nat.reduceSub, Nat.reduceBEq, Nat.reduceEqDiff, Nat.reduceLeDiff, Nat.reduceLT, Int.reduceLE, Int.reduceLT, Int.reduceAdd, Int.reduceSub, Int.reduceMul, Int.reduceNeg, Int.reduceToNat, Int.reduceEq, ↓reduceIte, reduceCtorEq, n1, n2, n3, n4, n5, n6, xl, h100, s_vlive_eq]; repeat (simp (disch := omega) only [w64_d, ipos, ineg, dpos, dneg]; try simp (config := { maxSteps := 10000000 }) only [go_sem, List.reduceReplicate, BitVec.reduceOfInt, BitVec.reduceToNat, BitVec.reduceToInt, BitVec.reduceEq, BitVec.reduceLT, BitVec.reduceLE, BitVec.reduceAdd, BitVec.reduceSub, BitVec.reduceMul, BitVec.reduceUDiv, BitVec.reduceUMod, BitVec.reduceAnd, BitVec.reduceOr, BitVec.reduceXOr, BitVec.reduceNot, BitVec.reduceNeg, BitVec.reduceHShiftLeft, BitVec.reduceHShiftRight, Nat.reduceAdd, Nat.reduceMul, Nat.reduceSub, Nat.reduceBEq, Nat.reduceEqDiff, Nat.reduceLeDiff, Nat.reduceLT, Int.reduceLE, Int.reduceLT, Int.reduceAdd, Int.reduceSub, Int.reduceMul, Int.reduceNeg, Int.reduceToNat, Int.reduceEq, ↓reduceIte, reduceCtorEq, n1, n2, n3, n4, n5, n6, xl, h100, s_vlive_eq]))
          exact subH_app _ _
        · have l100 : L.length ≤ 100 := by omega
          have bx4 := Sc.bel_mono bx (show H.length ≤ H.length + 4 by omega)
          have bb : ∀ R, wfR R → belH (H ++ [.vec 1 [], .vec 1 [], .own (tabC R), .own (refC R)]) = true := fun R hR => belH_app hH (by simp only [List.mem_cons, List.not_mem_nil, or_false, forall_eq_or_imp, forall_eq]; exact ⟨rfl, rfl, tabC_bel _ _, refC_bel⟩)
          (try simp (config := { maxSteps := 10000000 }) only [go_sem, List.reduceReplicate, BitVec.reduceOfInt, BitVec.reduceToNat, BitVec.reduceToInt, BitVec.reduceEq, BitVec.reduceLT, BitVec.reduceLE, BitVec.reduceAdd, BitVec.reduceSub, BitVec.reduceMul, BitVec.reduceUDiv, BitVec.reduceUMod, BitVec.reduceAnd, BitVec.reduceOr, BitVec.reduceXOr, BitVec.reduceNot, BitVec.reduceNeg, BitVec.reduceHShiftLeft, BitVec.reduceHShiftRight, Nat.reduceAdd, Nat.reduceMul, Nat.reduceSub, Nat.reduceBEq, Nat.reduceEqDiff, Nat.reduceLeDiff, Nat.reduceLT, Int.reduceLE, Int.reduceLT, Int.reduceAdd, Int.reduceSub, Int.reduceMul, Int.reduceNeg, Int.reduceToNat, Int.reduceEq, ↓reduceIte, reduceCtorEq, n1, n2, n3, n4, n5, n6, xl, h100]; repeat (simp (disch := omega) only [w64_d, ipos, ineg, dpos, dneg]; try simp (config := { maxSteps := 10000000 }) only [go_sem, List.reduceReplicate, BitVec.reduceOfInt, BitVec.reduceToNat, BitVec.reduceToInt, BitVec.reduceEq, BitVec.reduceLT, BitVec.reduceLE, BitVec.reduceAdd, BitVec.reduceSub, BitVec.reduceMul, BitVec.reduceUDiv, BitVec.reduceUMod, BitVec.reduceAnd, BitVec.reduceOr, BitVec.reduceXOr, BitVec.reduceNot, BitVec.reduceNeg, BitVec.reduceHShiftLeft, BitVec.reduceHShiftRight, Nat.reduceAdd, Nat.reduceMul, Nat.reduceSub, Nat.reduceBEq, Nat.reduceEqDiff, Nat.reduceLeDiff, Nat.reduceLT, Int.reduceLE, Int.reduceLT, Int.reduceAdd, Int.reduceSub, Int.reduceMul, Int.reduceNeg, Int.reduceToNat, Int.reduceEq, ↓reduceIte, reduceCtorEq, n1, n2, n3, n4, n5, n6, xl, h100]))
          refine arun_for L.length (fun k => ([(0, .c x), (1, .c (.u q)), (6, .c (.p (H.length + 2) 0 0)), (7, .c (.p (H.length + 3) 0 0)), (8, .c (.i k))], H ++ [.vec 1 [], .vec 1 [], .own (tabC (fR L k)), .own (refC (fR L k))])) ?_ fun k hk => ?_
          · exact Wk.wk (by simp [lo]) (by simp [Am.get]) (by simp [AV.bel, bx4]; simp [Sc.bel]) (subH_refl _) (bb _ fR_wf)
          · have wR := @fR_wf L k
            have eR := @fR_succ L k
            generalize fR L k = R at wR eR ⊢
            have lR := refC_l wR.1
            have tk : (refC R).take 16 = refC R := by rw [← lR, List.take_length]
            have oR := @refC_one R
            have sm := fun A B C X l => s_rvsame_eq (H := H ++ A :: B :: .own (tabC R) :: C :: X) (x := .p (H.length + 2) 0 0) (q := l) (tabP_of (by rw [hg_len_add]; rfl) wR.1) wR
            by_cases hlt : k < L.length
            · have e0 : (k : Int) < L.length := by omega
              have e1 : w64 ((k : Int) + 1) = ((k + 1 : Nat) : Int) := by rw [w64_d (by omega) (by omega)]; omega
              have e4 : (0 : Int) ≤ k := by omega
              obtain ⟨d, hd⟩ : ∃ d, L[k]? = some d := ⟨_, List.getElem?_eq_getElem hlt⟩
              have wD := wfR_do (d := d) wR
              have eD := eR hd
              rcases hx with ⟨rfl, rfl⟩ | ⟨id, v, rfl, hv, hcs⟩
              · simp at hlt
              · have lid : id < H.length := by simpa [Sc.bel] using bx
                have gX : ∀ X : AH, hg (H ++ X) id = hg H id := fun X => hg_lt' lid
                have hv1 := eq_true hv
                have cl : (L.flatMap encRd).length = L.length * 3 := fm_len encRd_l L
                have c3 : ((L.flatMap encRd).drop (k * 3)).take 3 = encRd d := fm_get encRd_l hd
                have c2 : (L.flatMap encRd).getD (k * 3 + 2) .any = .u d.l := fm_cell encRd_l hd (i := 2) (by decide)
                have k3 : k * 3 + 3 ≤ L.length * 3 := by omega
                have dA : s_vdo [.c (.p (H.length + 2) 0 0), .g (refC R), .g (encRd d)] (H ++ [.vec 1 [], .vec 1 [], .own (tabC R), .own (refC R)]) = some (.t [.g (refC (doR R d)), .c (.b true)], H ++ [.vec 1 [], .vec 1 [], .own (tabC (doR R d)), .own (refC R)]) := by
                  have := do_at (K := H ++ [.vec 1 [], .vec 1 []]) (X := [.own (refC R)]) (d := d) wR.1
                  simp only [List.length_append, List.length_cons, List.length_nil, List.append_assoc, List.cons_append, List.nil_append, Nat.reduceAdd] at this
                  exact this
                generalize doR R d = R2 at *
                have lR2 := refC_l wD.1
                have tk2 : (refC R2).take 16 = refC R2 := by rw [← lR2, List.take_length]
                have oR2 := @refC_one R2
                have sm2 := fun A B C X l => s_rvsame_eq (H := H ++ A :: B :: .own (tabC R2) :: C :: X) (x := .p (H.length + 2) 0 0) (q := l) (tabP_of (by rw [hg_len_add]; rfl) wD.1) wD
                have dz : (refC R).drop 16 = [] := by rw [← lR, List.drop_length]
                (try simp (config := { maxSteps := 10000000 }) only [go_sem, List.reduceReplicate, BitVec.reduceOfInt, BitVec.reduceToNat, BitVec.reduceToInt, BitVec.reduceEq, BitVec.reduceLT, BitVec.reduceLE, BitVec.reduceAdd, BitVec.reduceSub, BitVec.reduceMul, BitVec.reduceUDiv, BitVec.reduceUMod, BitVec.reduceAnd, BitVec.reduceOr, BitVec.reduceXOr, BitVec.reduceNot, BitVec.reduceNeg, BitVec.reduceHShiftLeft, BitVec.reduceHShiftRight, Nat.reduceAdd, Nat.reduceMul, Nat.reduceSub, Nat.reduceBEq, Nat.reduceEqDiff, Nat.reduceLeDiff, Nat.reduceLT, Int.reduceLE, Int.reduceLT, Int.reduceAdd, Int.reduceSub, Int.reduceMul, Int.reduceNeg, Int.reduceToNat, Int.reduceEq, ↓reduceIte, reduceCtorEq, xl, e0, e1, e4, tk, oR, lR, gX, hv1, hcs, cl, c3, c2, k3, dA, lR2, tk2, oR2, sm2, dz, Int.toNat_natCast]; repeat (simp (disch := omega) only [w64_d, ipos, ineg, dpos, dneg]; try simp (config := { maxSteps := 10000000 }) only [go_sem, List.reduceReplicate, BitVec.reduceOfInt, BitVec.reduceToNat, BitVec.reduceToInt, BitVec.reduceEq, BitVec.reduceLT, BitVec.reduceLE, BitVec.reduceAdd, BitVec.reduceSub, BitVec.reduceMul, BitVec.reduceUDiv, BitVec.reduceUMod, BitVec.reduceAnd, BitVec.reduceOr, BitVec.reduceXOr, BitVec.reduceNot, BitVec.reduceNeg, BitVec.reduceHShiftLeft, BitVec.reduceHShiftRight, Nat.reduceAdd, Nat.reduceMul, Nat.reduceSub, Nat.reduceBEq, Nat.reduceEqDiff, Nat.reduceLeDiff, Nat.reduceLT, Int.reduceLE, Int.reduceLT, Int.reduceAdd, Int.reduceSub, Int.reduceMul, Int.reduceNeg, Int.reduceToNat, Int.reduceEq, ↓reduceIte, reduceCtorEq, xl, e0, e1, e4, tk, oR, lR, gX, hv1, hcs, cl, c3, c2, k3, dA, lR2, tk2, oR2, sm2, dz, Int.toNat_natCast]))
                refine ⟨(by repeat' first | apply And.intro | (intro _; kernel_rfl) | kernel_rfl), fun hn => absurd ⟨by kernel_rfl, nvw_pre nvw_own2⟩ hn, (by repeat' first | apply And.intro | (intro _; kernel_rfl) | kernel_rfl), ?_⟩
                refine ⟨k + 1, by omega, by omega, ?_⟩
                rw [eD]
                exact Wk.wk (by simp [lo]) (by simp [Am.get]) (by simp [AV.bel, bx4]; simp [Sc.bel]) (subH_pre _ ⟨.inr rfl, .inr rfl, .inr rfl, .inr rfl, trivial⟩) (bb _ wD)
            · obtain rfl : k = L.length := by omega
              (try simp (config := { maxSteps := 10000000 }) only [go_sem, List.reduceReplicate, BitVec.reduceOfInt, BitVec.reduceToNat, BitVec.reduceToInt, BitVec.reduceEq, BitVec.reduceLT, BitVec.reduceLE, BitVec.reduceAdd, BitVec.reduceSub, BitVec.reduceMul, BitVec.reduceUDiv, BitVec.reduceUMod, BitVec.reduceAnd, BitVec.reduceOr, BitVec.reduceXOr, BitVec.reduceNot, BitVec.reduceNeg, BitVec.reduceHShiftLeft, BitVec.reduceHShiftRight, Nat.reduceAdd, Nat.reduceMul, Nat.reduceSub, Nat.reduceBEq, Nat.reduceEqDiff, Nat.reduceLeDiff, Nat.reduceLT, Int.reduceLE, Int.reduceLT, Int.reduceAdd, Int.reduceSub, Int.reduceMul, Int.reduceNeg, Int.reduceToNat, Int.reduceEq, ↓reduceIte, reduceCtorEq, xl, tk, oR, lR, sm, s_vlive_eq]; repeat (simp (disch := omega) only [w64_d, ipos, ineg, dpos, dneg]; try simp (config := { maxSteps := 10000000 }) only [go_sem, List.reduceReplicate, BitVec.reduceOfInt, BitVec.reduceToNat, BitVec.reduceToInt, BitVec.reduceEq, BitVec.reduceLT, BitVec.reduceLE, BitVec.reduceAdd, BitVec.reduceSub, BitVec.reduceMul, BitVec.reduceUDiv, BitVec.reduceUMod, BitVec.reduceAnd, BitVec.reduceOr, BitVec.reduceXOr, BitVec.reduceNot, BitVec.reduceNeg, BitVec.reduceHShiftLeft, BitVec.reduceHShiftRight, Nat.reduceAdd, Nat.reduceMul, Nat.reduceSub, Nat.reduceBEq, Nat.reduceEqDiff, Nat.reduceLeDiff, Nat.reduceLT, Int.reduceLE, Int.reduceLT, Int.reduceAdd, Int.reduceSub, Int.reduceMul, Int.reduceNeg, Int.reduceToNat, Int.reduceEq, ↓reduceIte, reduceCtorEq, xl, tk, oR, lR, sm, s_vlive_eq]))
              exact subH_app _ _
      · simp at h
    · simp at h
  · simp at h
theorem row_Rd {ps : List Par} {avs : List AV} {H : AH} (h : SigA (.sl [.n .i64, .n .i64, .n .u64] :: ps) avs H) : ∃ x r, avs = .c x :: r ∧ SigA ps r H ∧ ∃ L : List Rd, slD 3 dcRd H x = some L ∧ L.length ≤ 9223372036854775807 := by
  obtain ⟨x, r, h1, h2, L, h3, _, h4⟩ := sig_row (f := encRd) (w := 3) (dc := dcRd) (p := fun _ => True) (fun cs hcs => by
    obtain ⟨a, _, rfl, ka, g⟩ := fit_cons hcs
    obtain ⟨b, _, rfl, kb, g⟩ := fit_cons g
    obtain ⟨c, _, rfl, kc, g⟩ := fit_cons g
    obtain rfl := fit_nil g
    obtain ⟨a, rfl, _⟩ := fk_i ka
    obtain ⟨b, rfl, _⟩ := fk_i kb
    obtain ⟨c, rfl⟩ := fk_u kc
    exact ⟨⟨a, b, c⟩, rfl, trivial⟩) encRd_l dcRd_e h
  exact ⟨x, r, h1, h2, L, h3, h4⟩
theorem sig_vplay (avs : List AV) (H : AH) (h : SigA [.sl [.n .i64, .n .i64, .n .u64], .fl false [.n .u64]] avs H) : s_vplay avs H = some (.c (.b true)) := by
  obtain ⟨x, r, rfl, h1, L, hL, hn⟩ := row_Rd h
  obtain ⟨s, r2, rfl, ks, h2⟩ := sig_c h1
  obtain ⟨q, rfl⟩ := fk_u ks
  obtain rfl := sig_nil h2
  simp only [s_vplay, hL]
  rw [if_pos hn]
end
end Go.Proofs.Ytbnfapacbfeabaa
