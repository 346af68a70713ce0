/- Layer 13: the statements, more. -/
import Derived.Test.YtbnfapacbfeabaaRv8
namespace Go.Proofs.Ytbnfapacbfeabaa
open Go.Am
set_option linter.unusedSimpArgs false
set_option linter.unusedVariables false
noncomputable section

theorem tabC_one {R : List Sl} : (tabC R).all Sc.one = true := by unfold tabC; rw [List.all_flatMap]; exact List.all_eq_true.2 fun _ _ => rfl
def tgs : Nat → List Tg
  | 0 => []
  | n + 1 => .q :: .n :: tgs n
theorem csEq_tab : ∀ {n : Nat} {R S : List Sl}, R.length = n → S.length = n → ∃ b, csEq (tgs n) (tabC R) (tabC S) = some b ∧ (b = true ↔ R = S)
  | 0, R, S, h1, h2 => by
    obtain rfl := List.length_eq_zero_iff.1 h1
    obtain rfl := List.length_eq_zero_iff.1 h2
    exact ⟨true, rfl, by simp⟩
  | n + 1, [], S, h1, h2 => by simp at h1
  | n + 1, R, [], h1, h2 => by simp at h2
  | n + 1, x :: R, y :: S, h1, h2 => by
    obtain ⟨b, e1, e2⟩ := csEq_tab (n := n) (R := R) (S := S) (by simpa using h1) (by simpa using h2)
    refine ⟨(x.is == y.is) && (decide (x.ln = y.ln) && b), ?_, ?_⟩
    · show csEq (.q :: .n :: tgs n) (.b x.is :: .u x.ln :: tabC R) (.b y.is :: .u y.ln :: tabC S) = _
      simp only [csEq, scEq, e1]
    · rw [Bool.and_eq_true, Bool.and_eq_true, e2, beq_iff_eq, decide_eq_true_eq, List.cons.injEq]
      obtain ⟨a, b⟩ := x
      obtain ⟨c, d⟩ := y
      simp only [Sl.mk.injEq, and_assoc]
theorem killB_kill {R : List Sl} {l : BitVec 64} {b : Int} (hR : R.length = 8) {k : Nat} (hk : k < 8) : killB (killN R l b 8) l b k = false := by
  obtain ⟨y, hy⟩ := sl_some hR hk
  have hK := killN_get (R := R) (l := l) (but := b) (j := k) (k := 8)
  unfold killB hasT
  by_cases hb : killB R l b k = true
  · rw [if_pos ⟨hk, hb, by omega⟩] at hK
    rw [at8_k hk hK]; simp [z0]
  · rw [if_neg (fun h => hb h.2.1), hy] at hK
    unfold killB hasT at hb
    rw [at8_k hk hy] at hb
    rw [at8_k hk hK]
    simpa using hb
theorem killN_no {R : List Sl} {l : BitVec 64} {b : Int} : ∀ {k : Nat}, (∀ j, j < k → killB R l b j = false) → killN R l b k = R ∧ cntN R l b k = 0
  | 0, _ => ⟨rfl, rfl⟩
  | k + 1, h => by
    obtain ⟨h1, h2⟩ := killN_no (k := k) (fun j hj => h j (by omega))
    have := h k (by omega)
    simp only [killN, cntN, this, h1, h2]
    simp
theorem cntN_0 {R : List Sl} {l : BitVec 64} {b : Int} : ∀ {k : Nat}, cntN R l b k = 0 → ∀ j, j < k → killB R l b j = false
  | 0, _, j, hj => by omega
  | k + 1, h, j, hj => by
    simp only [cntN] at h
    split at h
    · omega
    · rename_i hb
      rcases Nat.lt_or_ge j k with h1 | h1
      · exact cntN_0 h j h1
      · obtain rfl : j = k := by omega
        simpa using hb
theorem cnt_same {R : List Sl} {l : BitVec 64} {b : Int} (hR : R.length = 8) : cntN R l b 8 = 0 ↔ killN R l b 8 = R := by
  constructor
  · intro h; exact (killN_no (cntN_0 h)).1
  · intro h
    refine (killN_no (fun j hj => ?_)).2
    have := killB_kill (l := l) (b := b) hR hj
    rwa [h] at this
def s_vkills (args : List AV) (H : AH) : Option AV :=
  match args with
  | [.c x, .c (.u _), .c (.i _)] =>
    match slD 3 dcRd H x with
    | some L => if L.length ≤ 9223372036854775807 then some (.c (.b true)) else none
    | none => none
  | _ => none
set_option maxHeartbeats 4000000 in
set_option maxRecDepth 100000 in
set_option maxHeartbeats 2000000 in
theorem ok_vkills : FpOk Try.prog 3 (fun args H => (s_vkills args H).map fun v => (v, H)) := by
  refine fq_ok (s := s_vkills) (tab := [(7, .fp s_vkill), (8, .fq s_vof), (5, .pu s_vlive), (6, .fp s_vdo)]) hmix (TabOk.cons (e := .fp s_vkill) ok_vkill (TabOk.cons (e := .fq s_vof) ok_vof (TabOk.cons (e := .pu s_vlive) ok_vlive (TabOk.cons (e := .fp s_vdo) ok_vdo TabOk.nil)))) Try.func3 rfl Try.results3 Try.ntmps3 (by kernel_rfl) (by kernel_rfl) ?_
  intro args H v h hargs hH
  unfold s_vkills at h
  split at h
  · rename_i x q but
    split at h
    · rename_i L hL
      split at h
      · rename_i hc
        simp only [Option.some.injEq] at h
        subst h
        refine ⟨by simp only [List.length_cons, List.length_nil]; decide, rfl, ?_⟩
        have bx : x.bel H.length = true := by simp only [List.all_cons, AV.bel, Bool.and_eq_true] at hargs; exact hargs.1
        have hx := slD_inv dcRd_d hL
        have xl : ∀ e, lenB (.sl e) (.c x) = some (.c (.i L.length)) := by
          intro e
          rcases hx with ⟨rfl, rfl⟩ | ⟨id2, v2, rfl, hv2, hcs2⟩ <;> rfl
        by_cases h60 : (60 : Int) < (L.length : Int)
        · (try simp (config := { maxSteps := 10000000 }) only [go_sem, List.reduceReplicate, BitVec.reduceOfInt, BitVec.reduceToNat, BitVec.reduceToInt, BitVec.reduceEq, BitVec.reduceLT, BitVec.reduceLE, BitVec.reduceAdd, BitVec.reduceSub, BitVec.reduceMul, BitVec.reduceUDiv, BitVec.reduceUMod, BitVec.reduceAnd, BitVec.reduceOr, BitVec.reduceXOr, BitVec.reduceNot, BitVec.reduceNeg, BitVec.reduceHShiftLeft, BitVec.reduceHShiftRight, Nat.reduceAdd, Nat.reduceMul, Nat.reduceSub, Nat.reduceBEq, Nat.reduceEqDiff, Nat.reduceLeDiff, Nat.reduceLT, Int.reduceLE, Int.reduceLT, Int.reduceAdd, Int.reduceSub, Int.reduceMul, Int.reduceNeg, Int.reduceToNat, Int.reduceEq, ↓reduceIte, reduceCtorEq, xl, h60, s_vlive_eq]; repeat (simp (disch := omega) only [w64_d, ipos, ineg, dpos, dneg]; try simp (config := { maxSteps := 10000000 }) only [go_sem, List.reduceReplicate, BitVec.reduceOfInt, BitVec.reduceToNat, BitVec.reduceToInt, BitVec.reduceEq, BitVec.reduceLT, BitVec.reduceLE, BitVec.reduceAdd, BitVec.reduceSub, BitVec.reduceMul, BitVec.reduceUDiv, BitVec.reduceUMod, BitVec.reduceAnd, BitVec.reduceOr, BitVec.reduceXOr, BitVec.reduceNot, BitVec.reduceNeg, BitVec.reduceHShiftLeft, BitVec.reduceHShiftRight, Nat.reduceAdd, Nat.reduceMul, Nat.reduceSub, Nat.reduceBEq, Nat.reduceEqDiff, Nat.reduceLeDiff, Nat.reduceLT, Int.reduceLE, Int.reduceLT, Int.reduceAdd, Int.reduceSub, Int.reduceMul, Int.reduceNeg, Int.reduceToNat, Int.reduceEq, ↓reduceIte, reduceCtorEq, xl, h60, s_vlive_eq]))
          exact subH_refl _
        · have l60 : L.length ≤ 60 := by omega
          have bx4 := Sc.bel_mono bx (show H.length ≤ H.length + 2 by omega)
          have bb : ∀ R, wfR R → belH (H ++ [.own (tabC R), .own (refC R)]) = true := fun R hR => belH_app hH (by simp only [List.mem_cons, List.not_mem_nil, or_false, forall_eq_or_imp, forall_eq]; exact ⟨tabC_bel _ _, refC_bel⟩)
          (try simp (config := { maxSteps := 10000000 }) only [go_sem, List.reduceReplicate, BitVec.reduceOfInt, BitVec.reduceToNat, BitVec.reduceToInt, BitVec.reduceEq, BitVec.reduceLT, BitVec.reduceLE, BitVec.reduceAdd, BitVec.reduceSub, BitVec.reduceMul, BitVec.reduceUDiv, BitVec.reduceUMod, BitVec.reduceAnd, BitVec.reduceOr, BitVec.reduceXOr, BitVec.reduceNot, BitVec.reduceNeg, BitVec.reduceHShiftLeft, BitVec.reduceHShiftRight, Nat.reduceAdd, Nat.reduceMul, Nat.reduceSub, Nat.reduceBEq, Nat.reduceEqDiff, Nat.reduceLeDiff, Nat.reduceLT, Int.reduceLE, Int.reduceLT, Int.reduceAdd, Int.reduceSub, Int.reduceMul, Int.reduceNeg, Int.reduceToNat, Int.reduceEq, ↓reduceIte, reduceCtorEq, xl, h60]; repeat (simp (disch := omega) only [w64_d, ipos, ineg, dpos, dneg]; try simp (config := { maxSteps := 10000000 }) only [go_sem, List.reduceReplicate, BitVec.reduceOfInt, BitVec.reduceToNat, BitVec.reduceToInt, BitVec.reduceEq, BitVec.reduceLT, BitVec.reduceLE, BitVec.reduceAdd, BitVec.reduceSub, BitVec.reduceMul, BitVec.reduceUDiv, BitVec.reduceUMod, BitVec.reduceAnd, BitVec.reduceOr, BitVec.reduceXOr, BitVec.reduceNot, BitVec.reduceNeg, BitVec.reduceHShiftLeft, BitVec.reduceHShiftRight, Nat.reduceAdd, Nat.reduceMul, Nat.reduceSub, Nat.reduceBEq, Nat.reduceEqDiff, Nat.reduceLeDiff, Nat.reduceLT, Int.reduceLE, Int.reduceLT, Int.reduceAdd, Int.reduceSub, Int.reduceMul, Int.reduceNeg, Int.reduceToNat, Int.reduceEq, ↓reduceIte, reduceCtorEq, xl, h60]))
          refine arun_for L.length (fun k => ([(0, .c x), (1, .c (.u q)), (2, .c (.i but)), (7, .c (.p H.length 0 0)), (8, .c (.p (H.length + 1) 0 0)), (9, .c (.i k))], H ++ [.own (tabC (fR L k)), .own (refC (fR L k))])) ?_ fun k hk => ?_
          · exact Wk.wk (by simp [lo]) (by simp [Am.get]) (by simp [AV.bel, bx4]; simp [Sc.bel]) (subH_refl _) (bb _ fR_wf)
          · have wR := @fR_wf L k
            have eR := @fR_succ L k
            generalize fR L k = R at wR eR ⊢
            have lR := refC_l wR.1
            have tk : (refC R).take 16 = refC R := by rw [← lR, List.take_length]
            have oR := @refC_one R
            by_cases hlt : k < L.length
            · have e0 : (k : Int) < L.length := by omega
              have e1 : w64 ((k : Int) + 1) = ((k + 1 : Nat) : Int) := by rw [w64_d (by omega) (by omega)]; omega
              have e4 : (0 : Int) ≤ k := by omega
              obtain ⟨d, hd⟩ : ∃ d, L[k]? = some d := ⟨_, List.getElem?_eq_getElem hlt⟩
              have wD := wfR_do (d := d) wR
              have eD := eR hd
              rcases hx with ⟨rfl, rfl⟩ | ⟨id, v, rfl, hv, hcs⟩
              · simp at hlt
              · have lid : id < H.length := by simpa [Sc.bel] using bx
                have gX : ∀ X : AH, hg (H ++ X) id = hg H id := fun X => hg_lt' lid
                have hv1 := eq_true hv
                have cl : (L.flatMap encRd).length = L.length * 3 := fm_len encRd_l L
                have c3 : ((L.flatMap encRd).drop (k * 3)).take 3 = encRd d := fm_get encRd_l hd
                have k3 : k * 3 + 3 ≤ L.length * 3 := by omega
                have dA : s_vdo [.c (.p H.length 0 0), .g (refC R), .g (encRd d)] (H ++ [.own (tabC R), .own (refC R)]) = some (.t [.g (refC (doR R d)), .c (.b true)], H ++ [.own (tabC (doR R d)), .own (refC R)]) := do_at (K := H) (X := [.own (refC R)]) (d := d) wR.1
                generalize doR R d = R2 at *
                have lR2 := refC_l wD.1
                have tk2 : (refC R2).take 16 = refC R2 := by rw [← lR2, List.take_length]
                have oR2 := @refC_one R2
                have dz : (refC R).drop 16 = [] := by rw [← lR, List.drop_length]
                (try simp (config := { maxSteps := 10000000 }) only [go_sem, List.reduceReplicate, BitVec.reduceOfInt, BitVec.reduceToNat, BitVec.reduceToInt, BitVec.reduceEq, BitVec.reduceLT, BitVec.reduceLE, BitVec.reduceAdd, BitVec.reduceSub, BitVec.reduceMul, BitVec.reduceUDiv, BitVec.reduceUMod, BitVec.reduceAnd, BitVec.reduceOr, BitVec.reduceXOr, BitVec.reduceNot, BitVec.reduceNeg, BitVec.reduceHShiftLeft, BitVec.reduceHShiftRight, Nat.reduceAdd, Nat.reduceMul, Nat.reduceSub, Nat.reduceBEq, Nat.reduceEqDiff, Nat.reduceLeDiff, Nat.reduceLT, Int.reduceLE, Int.reduceLT, Int.reduceAdd, Int.reduceSub, Int.reduceMul, Int.reduceNeg, Int.reduceToNat, Int.reduceEq, ↓reduceIte, reduceCtorEq, xl, e0, e1, e4, tk, oR, lR, gX, hv1, hcs, cl, c3, k3, dA, lR2, tk2, oR2, dz, Int.toNat_natCast]; repeat (simp (disch := omega) only [w64_d, ipos, ineg, dpos, dneg]; try simp (config := { maxSteps := 10000000 }) only [go_sem, List.reduceReplicate, BitVec.reduceOfInt, BitVec.reduceToNat, BitVec.reduceToInt, BitVec.reduceEq, BitVec.reduceLT, BitVec.reduceLE, BitVec.reduceAdd, BitVec.reduceSub, BitVec.reduceMul, BitVec.reduceUDiv, BitVec.reduceUMod, BitVec.reduceAnd, BitVec.reduceOr, BitVec.reduceXOr, BitVec.reduceNot, BitVec.reduceNeg, BitVec.reduceHShiftLeft, BitVec.reduceHShiftRight, Nat.reduceAdd, Nat.reduceMul, Nat.reduceSub, Nat.reduceBEq, Nat.reduceEqDiff, Nat.reduceLeDiff, Nat.reduceLT, Int.reduceLE, Int.reduceLT, Int.reduceAdd, Int.reduceSub, Int.reduceMul, Int.reduceNeg, Int.reduceToNat, Int.reduceEq, ↓reduceIte, reduceCtorEq, xl, e0, e1, e4, tk, oR, lR, gX, hv1, hcs, cl, c3, k3, dA, lR2, tk2, oR2, dz, Int.toNat_natCast]))
                refine ⟨(by repeat' first | apply And.intro | (intro _; kernel_rfl) | kernel_rfl), fun hn => absurd ⟨by kernel_rfl, nvw_pre nvw_own0⟩ hn, (by repeat' first | apply And.intro | (intro _; kernel_rfl) | kernel_rfl), ?_⟩
                refine ⟨k + 1, by omega, by omega, ?_⟩
                rw [eD]
                exact Wk.wk (by simp [lo]) (by simp [Am.get]) (by simp [AV.bel, bx4]; simp [Sc.bel]) (subH_pre _ ⟨.inr rfl, .inr rfl, trivial⟩) (bb _ wD)
            · obtain rfl : k = L.length := by omega
              have lT := tabC_l wR.1
              have kT : (tabC R).take 16 = tabC R := by rw [← lT, List.take_length]
              have k1 : s_vkill [.c (.p H.length 0 0), .c (.u q), .c (.i but)] (H ++ [.own (tabC R), .own (refC R), .own (tabC R)]) = some (.c (.i (cntN R q but 8)), H ++ [.own (tabC (killN R q but 8)), .own (refC R), .own (tabC R)]) := by
                rw [s_vkill_eq (tabP_of (by rw [hg_len]; rfl) wR.1)]
                simp only [setP]
                rw [List.set_append_right _ _ (Nat.le_refl _), Nat.sub_self]; rfl
              have lK : (killN R q but 8).length = 8 := by rw [killN_len, wR.1]
              have wK : wfR (killN R q but 8) := wfR_kill wR 8
              have oT := @tabC_one R
              have oK := @tabC_one (killN R q but 8)
              have kG := fun j => killN_get (R := R) (l := q) (but := but) (k := 8) (j := j)
              have kN := killN_no (R := killN R q but 8) (l := q) (b := but) (k := 8) (fun j hj => killB_kill wR.1 hj)
              have kS := cnt_same (R := R) (l := q) (b := but) wR.1
              have cl := fun k => @cntN_le R q but k
              have cS := fun k => show cntN R q but (k + 1) = if killB R q but k = true then cntN R q but k + 1 else cntN R q but k from rfl
              (try simp (config := { maxSteps := 10000000 }) only [go_sem, List.reduceReplicate, BitVec.reduceOfInt, BitVec.reduceToNat, BitVec.reduceToInt, BitVec.reduceEq, BitVec.reduceLT, BitVec.reduceLE, BitVec.reduceAdd, BitVec.reduceSub, BitVec.reduceMul, BitVec.reduceUDiv, BitVec.reduceUMod, BitVec.reduceAnd, BitVec.reduceOr, BitVec.reduceXOr, BitVec.reduceNot, BitVec.reduceNeg, BitVec.reduceHShiftLeft, BitVec.reduceHShiftRight, Nat.reduceAdd, Nat.reduceMul, Nat.reduceSub, Nat.reduceBEq, Nat.reduceEqDiff, Nat.reduceLeDiff, Nat.reduceLT, Int.reduceLE, Int.reduceLT, Int.reduceAdd, Int.reduceSub, Int.reduceMul, Int.reduceNeg, Int.reduceToNat, Int.reduceEq, ↓reduceIte, reduceCtorEq, xl, lT, kT, k1, oT]; repeat (simp (disch := omega) only [w64_d, ipos, ineg, dpos, dneg]; try simp (config := { maxSteps := 10000000 }) only [go_sem, List.reduceReplicate, BitVec.reduceOfInt, BitVec.reduceToNat, BitVec.reduceToInt, BitVec.reduceEq, BitVec.reduceLT, BitVec.reduceLE, BitVec.reduceAdd, BitVec.reduceSub, BitVec.reduceMul, BitVec.reduceUDiv, BitVec.reduceUMod, BitVec.reduceAnd, BitVec.reduceOr, BitVec.reduceXOr, BitVec.reduceNot, BitVec.reduceNeg, BitVec.reduceHShiftLeft, BitVec.reduceHShiftRight, Nat.reduceAdd, Nat.reduceMul, Nat.reduceSub, Nat.reduceBEq, Nat.reduceEqDiff, Nat.reduceLeDiff, Nat.reduceLT, Int.reduceLE, Int.reduceLT, Int.reduceAdd, Int.reduceSub, Int.reduceMul, Int.reduceNeg, Int.reduceToNat, Int.reduceEq, ↓reduceIte, reduceCtorEq, xl, lT, kT, k1, oT]))
              generalize killN R q but 8 = K at *
              have lT2 := tabC_l lK
              have kT2 : (tabC K).take 16 = tabC K := by rw [← lT2, List.take_length]
              have f1 := fun X h => s_vof_eq (H := H ++ .own (tabC K) :: X) (x := .p H.length 0 0) (h := h) (tabP_of (by rw [hg_len]; rfl) lK)
              have f2 := fun X h => s_vof_eq (H := H ++ .own (tabC K) :: .own (refC R) :: .own (tabC R) :: X) (x := .p (H.length + 2) 0 0) (h := h) (tabP_of (by rw [hg_len_add]; rfl) wR.1)
              have bK : belH (H ++ [.own (tabC K), .own (refC R), .own (tabC R)]) = true := belH_app hH (by simp only [List.mem_cons, List.not_mem_nil, or_false, forall_eq_or_imp, forall_eq]; exact ⟨tabC_bel _ _, refC_bel, tabC_bel _ _⟩)
              refine arun_for 8 (fun k => ([(1, .c (.u q)), (2, .c (.i but)), (7, .c (.p H.length 0 0)), (12, .c (.p (H.length + 2) 0 0)), (13, .c (.i (cntN R q but 8))), (14, .c (.i (cntN R q but k))), (15, .c (.i k))], H ++ [.own (tabC K), .own (refC R), .own (tabC R)])) ?_ fun k hk => ?_
              · exact Wk.wk (by simp [lo]) (by simp [Am.get, cntN]) (by simp [AV.bel, Sc.bel]) (subH_refl _) bK
              · by_cases hlt : k < 8
                · have e0 : (k : Int) < 8 := by omega
                  have e1 : w64 ((k : Int) + 1) = ((k + 1 : Nat) : Int) := by rw [w64_d (by omega) (by omega)]; omega
                  have cl := cl k
                  have e2 : w64 ((cntN R q but k : Int) + 1) = ((cntN R q but k + 1 : Nat) : Int) := by rw [w64_d (by omega) (by omega)]; omega
                  obtain ⟨y, hy⟩ := sl_some wR.1 hlt
                  have ay := at8_k hlt hy
                  have kG := kG k
                  have cS := cS k
                  have kB : killB R q but k = (!decide ((k : Int) = but) && (y.is && decide (y.ln = q))) := by unfold killB hasT; rw [ay, in8_k hlt]; rfl
                  have g2 := f2 [] k
                  have g1 := f1 [.own (refC R), .own (tabC R)] k
                  rw [ay] at g2
                  by_cases hb : killB R q but k = true
                  · rw [if_pos ⟨hlt, hb, by rw [wR.1]; exact hlt⟩] at kG
                    rw [at8_k hlt kG] at g1
                    rw [if_pos hb] at cS
                    rw [kB] at hb
                    simp only [Bool.and_eq_true, Bool.not_eq_true', decide_eq_false_iff_not, decide_eq_true_eq] at hb
                    obtain ⟨b1, b2, b3⟩ := hb
                    have b3' := eq_true b3
                    rw [b2] at g2
                    (try simp (config := { maxSteps := 10000000 }) only [go_sem, List.reduceReplicate, BitVec.reduceOfInt, BitVec.reduceToNat, BitVec.reduceToInt, BitVec.reduceEq, BitVec.reduceLT, BitVec.reduceLE, BitVec.reduceAdd, BitVec.reduceSub, BitVec.reduceMul, BitVec.reduceUDiv, BitVec.reduceUMod, BitVec.reduceAnd, BitVec.reduceOr, BitVec.reduceXOr, BitVec.reduceNot, BitVec.reduceNeg, BitVec.reduceHShiftLeft, BitVec.reduceHShiftRight, Nat.reduceAdd, Nat.reduceMul, Nat.reduceSub, Nat.reduceBEq, Nat.reduceEqDiff, Nat.reduceLeDiff, Nat.reduceLT, Int.reduceLE, Int.reduceLT, Int.reduceAdd, Int.reduceSub, Int.reduceMul, Int.reduceNeg, Int.reduceToNat, Int.reduceEq, ↓reduceIte, reduceCtorEq, e0, e1, e2, g1, g2, b1, b3', z0]; repeat (simp (disch := omega) only [w64_d, ipos, ineg, dpos, dneg]; try simp (config := { maxSteps := 10000000 }) only [go_sem, List.reduceReplicate, BitVec.reduceOfInt, BitVec.reduceToNat, BitVec.reduceToInt, BitVec.reduceEq, BitVec.reduceLT, BitVec.reduceLE, BitVec.reduceAdd, BitVec.reduceSub, BitVec.reduceMul, BitVec.reduceUDiv, BitVec.reduceUMod, BitVec.reduceAnd, BitVec.reduceOr, BitVec.reduceXOr, BitVec.reduceNot, BitVec.reduceNeg, BitVec.reduceHShiftLeft, BitVec.reduceHShiftRight, Nat.reduceAdd, Nat.reduceMul, Nat.reduceSub, Nat.reduceBEq, Nat.reduceEqDiff, Nat.reduceLeDiff, Nat.reduceLT, Int.reduceLE, Int.reduceLT, Int.reduceAdd, Int.reduceSub, Int.reduceMul, Int.reduceNeg, Int.reduceToNat, Int.reduceEq, ↓reduceIte, reduceCtorEq, e0, e1, e2, g1, g2, b1, b3', z0]))
                    refine ⟨k + 1, by omega, by omega, ?_⟩
                    rw [cS]
                    exact Wk.wk (by simp [lo]) (by simp [Am.get]) (by simp [AV.bel, Sc.bel]) (subH_refl _) bK
                  · rw [if_neg (fun h => hb h.2.1), hy] at kG
                    rw [at8_k hlt kG] at g1
                    rw [if_neg hb] at cS
                    rw [kB] at hb
                    cases hi : y.is
                    · rw [hi] at g1 g2
                      (try simp (config := { maxSteps := 10000000 }) only [go_sem, List.reduceReplicate, BitVec.reduceOfInt, BitVec.reduceToNat, BitVec.reduceToInt, BitVec.reduceEq, BitVec.reduceLT, BitVec.reduceLE, BitVec.reduceAdd, BitVec.reduceSub, BitVec.reduceMul, BitVec.reduceUDiv, BitVec.reduceUMod, BitVec.reduceAnd, BitVec.reduceOr, BitVec.reduceXOr, BitVec.reduceNot, BitVec.reduceNeg, BitVec.reduceHShiftLeft, BitVec.reduceHShiftRight, Nat.reduceAdd, Nat.reduceMul, Nat.reduceSub, Nat.reduceBEq, Nat.reduceEqDiff, Nat.reduceLeDiff, Nat.reduceLT, Int.reduceLE, Int.reduceLT, Int.reduceAdd, Int.reduceSub, Int.reduceMul, Int.reduceNeg, Int.reduceToNat, Int.reduceEq, ↓reduceIte, reduceCtorEq, e0, e1, g1, g2]; repeat (simp (disch := omega) only [w64_d, ipos, ineg, dpos, dneg]; try simp (config := { maxSteps := 10000000 }) only [go_sem, List.reduceReplicate, BitVec.reduceOfInt, BitVec.reduceToNat, BitVec.reduceToInt, BitVec.reduceEq, BitVec.reduceLT, BitVec.reduceLE, BitVec.reduceAdd, BitVec.reduceSub, BitVec.reduceMul, BitVec.reduceUDiv, BitVec.reduceUMod, BitVec.reduceAnd, BitVec.reduceOr, BitVec.reduceXOr, BitVec.reduceNot, BitVec.reduceNeg, BitVec.reduceHShiftLeft, BitVec.reduceHShiftRight, Nat.reduceAdd, Nat.reduceMul, Nat.reduceSub, Nat.reduceBEq, Nat.reduceEqDiff, Nat.reduceLeDiff, Nat.reduceLT, Int.reduceLE, Int.reduceLT, Int.reduceAdd, Int.reduceSub, Int.reduceMul, Int.reduceNeg, Int.reduceToNat, Int.reduceEq, ↓reduceIte, reduceCtorEq, e0, e1, g1, g2]))
                      refine ⟨k + 1, by omega, by omega, ?_⟩
                      rw [cS]
                      exact Wk.wk (by simp [lo]) (by simp [Am.get]) (by simp [AV.bel, Sc.bel]) (subH_refl _) bK
                    · rw [hi] at g1 g2 hb
                      by_cases hq : y.ln = q
                      · have hq' := eq_true hq
                        have bb : (k : Int) = but := by simpa [hq] using hb
                        have bb' := eq_true bb
                        (try simp (config := { maxSteps := 10000000 }) only [go_sem, List.reduceReplicate, BitVec.reduceOfInt, BitVec.reduceToNat, BitVec.reduceToInt, BitVec.reduceEq, BitVec.reduceLT, BitVec.reduceLE, BitVec.reduceAdd, BitVec.reduceSub, BitVec.reduceMul, BitVec.reduceUDiv, BitVec.reduceUMod, BitVec.reduceAnd, BitVec.reduceOr, BitVec.reduceXOr, BitVec.reduceNot, BitVec.reduceNeg, BitVec.reduceHShiftLeft, BitVec.reduceHShiftRight, Nat.reduceAdd, Nat.reduceMul, Nat.reduceSub, Nat.reduceBEq, Nat.reduceEqDiff, Nat.reduceLeDiff, Nat.reduceLT, Int.reduceLE, Int.reduceLT, Int.reduceAdd, Int.reduceSub, Int.reduceMul, Int.reduceNeg, Int.reduceToNat, Int.reduceEq, ↓reduceIte, reduceCtorEq, e0, e1, g1, g2, hq', bb']; repeat (simp (disch := omega) only [w64_d, ipos, ineg, dpos, dneg]; try simp (config := { maxSteps := 10000000 }) only [go_sem, List.reduceReplicate, BitVec.reduceOfInt, BitVec.reduceToNat, BitVec.reduceToInt, BitVec.reduceEq, BitVec.reduceLT, BitVec.reduceLE, BitVec.reduceAdd, BitVec.reduceSub, BitVec.reduceMul, BitVec.reduceUDiv, BitVec.reduceUMod, BitVec.reduceAnd, BitVec.reduceOr, BitVec.reduceXOr, BitVec.reduceNot, BitVec.reduceNeg, BitVec.reduceHShiftLeft, BitVec.reduceHShiftRight, Nat.reduceAdd, Nat.reduceMul, Nat.reduceSub, Nat.reduceBEq, Nat.reduceEqDiff, Nat.reduceLeDiff, Nat.reduceLT, Int.reduceLE, Int.reduceLT, Int.reduceAdd, Int.reduceSub, Int.reduceMul, Int.reduceNeg, Int.reduceToNat, Int.reduceEq, ↓reduceIte, reduceCtorEq, e0, e1, g1, g2, hq', bb']))
                        refine ⟨k + 1, by omega, by omega, ?_⟩
                        rw [cS]
                        exact Wk.wk (by simp [lo]) (by simp [Am.get]) (by simp [AV.bel, Sc.bel]) (subH_refl _) bK
                      · have hq' := eq_false hq
                        (try simp (config := { maxSteps := 10000000 }) only [go_sem, List.reduceReplicate, BitVec.reduceOfInt, BitVec.reduceToNat, BitVec.reduceToInt, BitVec.reduceEq, BitVec.reduceLT, BitVec.reduceLE, BitVec.reduceAdd, BitVec.reduceSub, BitVec.reduceMul, BitVec.reduceUDiv, BitVec.reduceUMod, BitVec.reduceAnd, BitVec.reduceOr, BitVec.reduceXOr, BitVec.reduceNot, BitVec.reduceNeg, BitVec.reduceHShiftLeft, BitVec.reduceHShiftRight, Nat.reduceAdd, Nat.reduceMul, Nat.reduceSub, Nat.reduceBEq, Nat.reduceEqDiff, Nat.reduceLeDiff, Nat.reduceLT, Int.reduceLE, Int.reduceLT, Int.reduceAdd, Int.reduceSub, Int.reduceMul, Int.reduceNeg, Int.reduceToNat, Int.reduceEq, ↓reduceIte, reduceCtorEq, e0, e1, g1, g2, hq']; repeat (simp (disch := omega) only [w64_d, ipos, ineg, dpos, dneg]; try simp (config := { maxSteps := 10000000 }) only [go_sem, List.reduceReplicate, BitVec.reduceOfInt, BitVec.reduceToNat, BitVec.reduceToInt, BitVec.reduceEq, BitVec.reduceLT, BitVec.reduceLE, BitVec.reduceAdd, BitVec.reduceSub, BitVec.reduceMul, BitVec.reduceUDiv, BitVec.reduceUMod, BitVec.reduceAnd, BitVec.reduceOr, BitVec.reduceXOr, BitVec.reduceNot, BitVec.reduceNeg, BitVec.reduceHShiftLeft, BitVec.reduceHShiftRight, Nat.reduceAdd, Nat.reduceMul, Nat.reduceSub, Nat.reduceBEq, Nat.reduceEqDiff, Nat.reduceLeDiff, Nat.reduceLT, Int.reduceLE, Int.reduceLT, Int.reduceAdd, Int.reduceSub, Int.reduceMul, Int.reduceNeg, Int.reduceToNat, Int.reduceEq, ↓reduceIte, reduceCtorEq, e0, e1, g1, g2, hq']))
                        refine ⟨k + 1, by omega, by omega, ?_⟩
                        rw [cS]
                        exact Wk.wk (by simp [lo]) (by simp [Am.get]) (by simp [AV.bel, Sc.bel]) (subH_refl _) bK
                · obtain rfl : k = 8 := by omega
                  obtain ⟨t1, d1, d2⟩ := csEq_tab (n := 8) lK lK
                  obtain ⟨t2, d3, d4⟩ := csEq_tab (n := 8) lK wR.1
                  obtain rfl : t1 = true := d2.2 rfl
                  have d1 : csEq [.q, .n, .q, .n, .q, .n, .q, .n, .q, .n, .q, .n, .q, .n, .q, .n] (tabC K) (tabC K) = some true := d1
                  have d3 : csEq [.q, .n, .q, .n, .q, .n, .q, .n, .q, .n, .q, .n, .q, .n, .q, .n] (tabC K) (tabC R) = some t2 := d3
                  have k2 : s_vkill [.c (.p H.length 0 0), .c (.u q), .c (.i but)] (H ++ [.own (tabC K), .own (refC R), .own (tabC R), .own (tabC K)]) = some (.c (.i 0), H ++ [.own (tabC K), .own (refC R), .own (tabC R), .own (tabC K)]) := by
                    rw [s_vkill_eq (tabP_of (by rw [hg_len]; rfl) lK), kN.1, kN.2]
                    simp only [setP]
                    rw [List.set_append_right _ _ (Nat.le_refl _), Nat.sub_self]; rfl
                  rcases Nat.eq_zero_or_pos (cntN R q but 8) with hz | hz
                  · obtain rfl : t2 = true := d4.2 (kS.1 hz)
                    (try simp (config := { maxSteps := 10000000 }) only [go_sem, List.reduceReplicate, BitVec.reduceOfInt, BitVec.reduceToNat, BitVec.reduceToInt, BitVec.reduceEq, BitVec.reduceLT, BitVec.reduceLE, BitVec.reduceAdd, BitVec.reduceSub, BitVec.reduceMul, BitVec.reduceUDiv, BitVec.reduceUMod, BitVec.reduceAnd, BitVec.reduceOr, BitVec.reduceXOr, BitVec.reduceNot, BitVec.reduceNeg, BitVec.reduceHShiftLeft, BitVec.reduceHShiftRight, Nat.reduceAdd, Nat.reduceMul, Nat.reduceSub, Nat.reduceBEq, Nat.reduceEqDiff, Nat.reduceLeDiff, Nat.reduceLT, Int.reduceLE, Int.reduceLT, Int.reduceAdd, Int.reduceSub, Int.reduceMul, Int.reduceNeg, Int.reduceToNat, Int.reduceEq, ↓reduceIte, reduceCtorEq, hz, lT, kT, lT2, kT2, oT, oK, k2, d1, d3, s_vlive_eq, Int.natCast_zero]; repeat (simp (disch := omega) only [w64_d, ipos, ineg, dpos, dneg]; try simp (config := { maxSteps := 10000000 }) only [go_sem, List.reduceReplicate, BitVec.reduceOfInt, BitVec.reduceToNat, BitVec.reduceToInt, BitVec.reduceEq, BitVec.reduceLT, BitVec.reduceLE, BitVec.reduceAdd, BitVec.reduceSub, BitVec.reduceMul, BitVec.reduceUDiv, BitVec.reduceUMod, BitVec.reduceAnd, BitVec.reduceOr, BitVec.reduceXOr, BitVec.reduceNot, BitVec.reduceNeg, BitVec.reduceHShiftLeft, BitVec.reduceHShiftRight, Nat.reduceAdd, Nat.reduceMul, Nat.reduceSub, Nat.reduceBEq, Nat.reduceEqDiff, Nat.reduceLeDiff, Nat.reduceLT, Int.reduceLE, Int.reduceLT, Int.reduceAdd, Int.reduceSub, Int.reduceMul, Int.reduceNeg, Int.reduceToNat, Int.reduceEq, ↓reduceIte, reduceCtorEq, hz, lT, kT, lT2, kT2, oT, oK, k2, d1, d3, s_vlive_eq, Int.natCast_zero]))
                    exact subH_app _ _
                  · have hn : ¬ t2 = true := fun h => by have := kS.2 (d4.1 h); omega
                    obtain rfl : t2 = false := by simpa using hn
                    have hz' : ¬ ((cntN R q but 8 : Nat) : Int) = 0 := by omega
                    (try simp (config := { maxSteps := 10000000 }) only [go_sem, List.reduceReplicate, BitVec.reduceOfInt, BitVec.reduceToNat, BitVec.reduceToInt, BitVec.reduceEq, BitVec.reduceLT, BitVec.reduceLE, BitVec.reduceAdd, BitVec.reduceSub, BitVec.reduceMul, BitVec.reduceUDiv, BitVec.reduceUMod, BitVec.reduceAnd, BitVec.reduceOr, BitVec.reduceXOr, BitVec.reduceNot, BitVec.reduceNeg, BitVec.reduceHShiftLeft, BitVec.reduceHShiftRight, Nat.reduceAdd, Nat.reduceMul, Nat.reduceSub, Nat.reduceBEq, Nat.reduceEqDiff, Nat.reduceLeDiff, Nat.reduceLT, Int.reduceLE, Int.reduceLT, Int.reduceAdd, Int.reduceSub, Int.reduceMul, Int.reduceNeg, Int.reduceToNat, Int.reduceEq, ↓reduceIte, reduceCtorEq, hz', lT, kT, lT2, kT2, oT, oK, k2, d1, d3, s_vlive_eq]; repeat (simp (disch := omega) only [w64_d, ipos, ineg, dpos, dneg]; try simp (config := { maxSteps := 10000000 }) only [go_sem, List.reduceReplicate, BitVec.reduceOfInt, BitVec.reduceToNat, BitVec.reduceToInt, BitVec.reduceEq, BitVec.reduceLT, BitVec.reduceLE, BitVec.reduceAdd, BitVec.reduceSub, BitVec.reduceMul, BitVec.reduceUDiv, BitVec.reduceUMod, BitVec.reduceAnd, BitVec.reduceOr, BitVec.reduceXOr, BitVec.reduceNot, BitVec.reduceNeg, BitVec.reduceHShiftLeft, BitVec.reduceHShiftRight, Nat.reduceAdd, Nat.reduceMul, Nat.reduceSub, Nat.reduceBEq, Nat.reduceEqDiff, Nat.reduceLeDiff, Nat.reduceLT, Int.reduceLE, Int.reduceLT, Int.reduceAdd, Int.reduceSub, Int.reduceMul, Int.reduceNeg, Int.reduceToNat, Int.reduceEq, ↓reduceIte, reduceCtorEq, hz', lT, kT, lT2, kT2, oT, oK, k2, d1, d3, s_vlive_eq]))
                    exact subH_app _ _
      · simp at h
    · simp at h
  · simp at h
theorem sig_vkills (avs : List AV) (H : AH) (h : SigA [.sl [.n .i64, .n .i64, .n .u64], .fl false [.n .u64], .fl false [.n .i64]] avs H) : s_vkills avs H = some (.c (.b true)) := by
  obtain ⟨x, r, rfl, h1, L, hL, hn⟩ := row_Rd h
  obtain ⟨s, r2, rfl, ks, h2⟩ := sig_c h1
  obtain ⟨q, rfl⟩ := fk_u ks
  obtain ⟨s2, r3, rfl, ks2, h3⟩ := sig_c h2
  obtain ⟨b, rfl, _⟩ := fk_i ks2
  obtain rfl := sig_nil h3
  simp only [s_vkills, hL]
  rw [if_pos hn]
end
end Go.Proofs.Ytbnfapacbfeabaa
