/- Layer 27: the law of walks. -/
import Derived.Test.YtanblagbkhpolaaWk5
namespace Go.Proofs.Ytanblagbkhpolaa
open Go.Am
set_option linter.unusedSimpArgs false
set_option linter.unusedVariables false
noncomputable section

theorem nvw_refl (H : AH) : nvw H H := fun _ _ _ => rfl
theorem nvw_trans {A B C : AH} (h : nvw A B) (h' : nvw B C) : nvw A C := fun i h1 h2 => by
  have e := h' i h1 h2
  rw [← e] at h1 h2
  exact (h i h1 h2).trans e
theorem nvw_1 {H : AH} {o : AObj} (h : o.live = true → o.owned = true) : nvw H (H ++ [o]) := fun i h1 h2 => by
  rw [hg_append] at h1 h2 ⊢
  split at h1
  · rename_i e
    rw [if_pos e] at h2
    rw [h h1] at h2; simp at h2
  · rename_i e
    rw [if_neg e]
theorem nvw_app {H : AH} : ∀ {X : AH}, (∀ o ∈ X, o.live = true → o.owned = true) → nvw H (H ++ X) := by
  intro X
  induction X generalizing H with
  | nil => intro _; rw [List.append_nil]; exact nvw_refl H
  | cons o X ih =>
    intro h
    rw [show H ++ o :: X = (H ++ [o]) ++ X by simp]
    exact nvw_trans (nvw_1 (h o (by simp))) (ih fun o' ho => h o' (by simp [ho]))
theorem nvw_h {H X : AH} (h : (X.all fun o => o.live = false || o.owned) = true) : nvw H (H ++ X) := nvw_app fun o ho hl => by
  have := List.all_eq_true.1 h o ho
  simp [hl] at this; exact this
theorem nvc {p : Prop} {full : Array Oper} {i j : Nat} {A B : AH} (h : nvw A B) (hl : loose full i j = true) : ¬ (loose full i j = true ∧ nvw A B) → p := fun k => absurd ⟨hl, h⟩ k
theorem nvw_7 {H Y : AH} {a b c d e f g : AObj} (h : (Y.all fun o => o.live = false || o.owned) = true) : nvw (H ++ [a, b, c, d, e, f, g]) (H ++ a :: b :: c :: d :: e :: f :: g :: Y) := by
  have e : H ++ a :: b :: c :: d :: e :: f :: g :: Y = (H ++ [a, b, c, d, e, f, g]) ++ Y := by simp
  rw [e]; exact nvw_h h
theorem s_wtell_eqn {H : AH} {x : Sc} {d : BitVec 64} {g : Bool} {m : List Sc} : s_wtell [.c x, .g (.u d :: .b g :: m)] H = if m.length = 40 ∧ m.all Sc.one = true then (wkO H x).map fun r => (.t [], match r with | none => H | some (id, s) => H.set id (.own (wkC (tellW s d g)))) else none := rfl
theorem s_wask_eqn {H : AH} {x : Sc} : s_wask [.c x] H = (wkO H x).map fun r => .t [.g (match r with | none => askC 0 0#64 0 0#64 0#64 | some (_, s) => askW s), .c (.b (match r with | none => false | some (_, s) => !endedW s))] := rfl
theorem s_wend_eqn {H : AH} {x : Sc} : s_wend [.c x] H = (wkO H x).map fun r => .t [.c (.i (match r with | none => 2 | some (_, s) => endI s)), .g (match r with | none => entC 0#64 0 0#64 | some (_, s) => endE s)] := rfl
theorem s_wagain_eqn {H : AH} {x : Sc} : s_wagain [.c x] H = (wkO H x).map fun r => .c (.i (match r with | none => 0 | some (_, s) => s.ag)) := rfl
theorem s_wquest_eqn {H : AH} {x : Sc} : s_wquest [.c x] H = (wkO H x).map fun r => .g (match r with | none => q0 | some (_, s) => qC s) := rfl
def zW : Wst := ⟨false, 0, 0#64, 0#64, 0, 0, false, false, 0, 0, 0#64, 0#64, false, 0⟩
theorem zW_tell (d : BitVec 64) (g : Bool) : tellW zW d g = zW := if_pos rfl
theorem zW_ask : askW zW = askC 0 0#64 0 0#64 0#64 ∧ endedW zW = true ∧ endI zW = 2 ∧ endE zW = entC 0#64 0 0#64 := ⟨rfl, rfl, rfl, rfl⟩
theorem wkO_n {H : AH} : wkO H .nilp = some none := rfl
theorem wkO_1 {H X : AH} {a : AObj} {s : Wst} : wkO (H ++ a :: .own (wkC s) :: X) (.p (H.length + 1) 0 0) = some (some (H.length + 1, s)) := wkO_of (by rw [hg_len_add]; rfl)
theorem wkO_6 {H X : AH} {a b c d e f : AObj} {s : Wst} : wkO (H ++ a :: b :: c :: d :: e :: f :: .own (wkC s) :: X) (.p (H.length + 6) 0 0) = some (some (H.length + 6, s)) := wkO_of (by rw [hg_len_add]; rfl)
theorem wkO_10 {H X : AH} {a b c d e f g h i j : AObj} {s : Wst} : wkO (H ++ a :: b :: c :: d :: e :: f :: g :: h :: i :: j :: .own (wkC s) :: X) (.p (H.length + 10) 0 0) = some (some (H.length + 10, s)) := wkO_of (by rw [hg_len_add]; rfl)
theorem wkO_15 {H X : AH} {a b c d e f g h i j k l m n o : AObj} {s : Wst} : wkO (H ++ a :: b :: c :: d :: e :: f :: g :: h :: i :: j :: k :: l :: m :: n :: o :: .own (wkC s) :: X) (.p (H.length + 15) 0 0) = some (some (H.length + 15, s)) := wkO_of (by rw [hg_len_add]; rfl)
theorem zW_c : wkC zW = [.b false, .i 0, .u 0#64, .u 0#64, .i 0, .i 0, .b false, .b false, .i 0, .i 0, .u 0#64, .u 0#64, .b false, .i 0] := rfl
theorem wkO_1z {H X : AH} {a : AObj} : wkO (H ++ a :: .own [.b false, .i 0, .u 0#64, .u 0#64, .i 0, .i 0, .b false, .b false, .i 0, .i 0, .u 0#64, .u 0#64, .b false, .i 0] :: X) (.p (H.length + 1) 0 0) = some (some (H.length + 1, zW)) := wkO_1 (s := zW)
theorem wkC_len (s : Wst) : (wkC s).length = 14 := rfl
theorem wkC_one (s : Wst) : (wkC s).all Sc.one = true := rfl
theorem wkC_take (s : Wst) : (wkC s).take 14 = wkC s := rfl
/-- a walk behind answers -/
def wI (ln : Int) (ro va : BitVec 64) (ac pr : Int) (su mx : Bool) (l : List (BitVec 64 × Bool)) : Wst := tellL (beginW ln ro va ac pr su mx) l
theorem look_q (s : Wst) (p : BitVec 64) (l : Int) : qC (lookW s p l) = qC s ∧ (lookW s p l).made = s.made := ⟨rfl, rfl⟩
theorem tell_q (s : Wst) (d : BitVec 64) (g : Bool) : qC (tellW s d g) = qC s ∧ (tellW s d g).made = s.made := by
  unfold tellW
  repeat' split
  all_goals exact ⟨rfl, rfl⟩
theorem tells_q : ∀ (l : List (BitVec 64 × Bool)) (s : Wst), qC (tellL s l) = qC s ∧ (tellL s l).made = s.made
  | [], s => ⟨rfl, rfl⟩
  | x :: r, s => by
    have h := tells_q r (tellW s x.1 x.2)
    have h2 := tell_q s x.1 x.2
    exact ⟨h.1.trans h2.1, h.2.trans h2.2⟩
theorem wI_q {ln : Int} {ro va : BitVec 64} {ac pr : Int} {su mx : Bool} (l : List (BitVec 64 × Bool)) : qC (wI ln ro va ac pr su mx l) = [.i ln, .u ro, .u va, .i ac, .i pr, .b su, .b mx] ∧ (wI ln ro va ac pr su mx l).made = true := by
  have h := tells_q l (beginW ln ro va ac pr su mx)
  unfold wI
  rw [h.1, h.2]
  unfold beginW
  split <;> exact ⟨rfl, rfl⟩
theorem wI_ok {ln : Int} {ro va : BitVec 64} {ac pr : Int} {su mx : Bool} (l : List (BitVec 64 × Bool)) : okR (wI ln ro va ac pr su mx l) (resW (qW ln ro va ac pr su mx) l) := by
  unfold wI resW beginW
  by_cases h : signU va 39 = va
  · have h' : signU (qW ln ro va ac pr su mx).va 39 = (qW ln ro va ac pr su mx).va := h
    rw [if_pos h, if_pos h']
    exact run_ok (qW ln ro va ac pr su mx) l.length l (Nat.le_refl _) 2 ro [] 0
  · have h' : ¬ signU (qW ln ro va ac pr su mx).va 39 = (qW ln ro va ac pr su mx).va := h
    rw [if_neg h, if_neg h', tell_ended (by rfl)]
    exact ⟨rfl, rfl, rfl, fun h => absurd h (by simp)⟩
theorem wI_step {ln : Int} {ro va : BitVec 64} {ac pr : Int} {su mx : Bool} {L : List Ans} {k : Nat} {a : Ans} (h : L[k]? = some a) : wI ln ro va ac pr su mx (prN (L.take (k + 1))) = tellW (wI ln ro va ac pr su mx (prN (L.take k))) (dN a) (gN a) := by
  have hk : k < L.length := by
    rcases Nat.lt_or_ge k L.length with h' | h'
    · exact h'
    · rw [List.getElem?_eq_none h'] at h; simp at h
  rw [List.getElem?_eq_getElem hk] at h
  simp only [Option.some.injEq] at h
  have e : prN (L.take (k + 1)) = prN (L.take k) ++ [(dN a, gN a)] := by
    rw [List.take_succ_eq_append_getElem hk, h]; simp [prN]
  unfold wI tellL
  rw [e, List.foldl_append]
  rfl
def lw0 : Wst := ⟨true, 1, 524288#64, 0#64, 1, 1, false, false, 0, 2, 2147483648#64, 0#64, false, 0⟩
def lw1 : Wst := ⟨true, 1, 524288#64, 0#64, 1, 1, false, false, 1, 2, 2147483648#64, 67#64, false, 0⟩
theorem live_w : ventryU 524288#64 0#64 2 = 2147483648#64 ∧ signU 0#64 39 = 0#64 ∧ kindU 67#64 2 = 2 ∧ letsB 67#64 1 1 false false = true ∧ markU 67#64 1 = 67#64 ∧ vpageU 0#64 2 = 0#64 := by
  refine ⟨?_, ?_, ?_, ?_, ?_, ?_⟩
  · simp only [ventryU, lowU, placeU, cutU, ofG_eqn]; decide +kernel
  · simp only [signU, ofG_eqn]; decide +kernel
  · simp only [kindU, lowU, cutU, ofG_eqn]; decide +kernel
  · decide +kernel
  · decide +kernel
  · decide +kernel
theorem lw0_b : beginW 1 524288#64 0#64 1 1 false false = lw0 := by
  obtain ⟨h1, h2, h3, h4, h5, h6⟩ := live_w
  have hh : hasW 1 2147483648#64 = true := by decide +kernel
  unfold beginW
  rw [if_pos h2]
  unfold startW lookW
  simp only [h1, hh, if_true]
  rfl
theorem lw1_t : tellW lw0 67#64 false = lw1 := by
  obtain ⟨h1, h2, h3, h4, h5, h6⟩ := live_w
  unfold tellW
  rw [if_neg (by decide), if_neg (by decide)]
  have e1 : lw0.lv = 2 := rfl
  have e2 : lw0.ac = 1 := rfl
  have e3 : lw0.pr = 1 := rfl
  have e4 : lw0.su = false := rfl
  have e5 : lw0.mx = false := rfl
  rw [e1, e2, e3, e4, e5, h3, h4, h5]
  rfl
theorem lw_v : askW lw0 = askC 7 2147483648#64 8 0#64 0#64 ∧ endedW lw0 = false ∧ endI lw1 = 1 ∧ endE lw1 = entC 0#64 2 67#64 := by
  refine ⟨rfl, rfl, rfl, ?_⟩
  unfold endE
  rw [if_pos ⟨rfl, rfl⟩]
  have e1 : lw1.lv = 2 := rfl
  have e2 : lw1.va = 0#64 := rfl
  rw [e1, e2, live_w.2.2.2.2.2]
  rfl
theorem wkO_0 {X : AH} {s : Wst} : wkO (.own (wkC s) :: X) (.p 0 0 0) = some (some (0, s)) := wkO_of rfl
def s_wlive (args : List AV) : Option AV :=
  match args with
  | [] => some (.c (.b true))
  | _ => none
theorem s_wlive_eq : s_wlive [] = some (.c (.b true)) := rfl
set_option maxRecDepth 100000 in
set_option maxHeartbeats 2000000 in
theorem ok_wlive : PuOk Try.prog 10 s_wlive := by
  refine pu_ok (tab := [(11, .pu s_wbegin), (6, .fq s_wask), (5, .fp s_wtell), (7, .fq s_wend)]) hmix (TabOk.cons (e := .pu s_wbegin) ok_wbegin (TabOk.cons (e := .fq s_wask) ok_wask (TabOk.cons (e := .fp s_wtell) ok_wtell (TabOk.cons (e := .fq s_wend) ok_wend TabOk.nil)))) Try.func10 rfl Try.results10 Try.ntmps10 (by kernel_rfl) (by kernel_rfl) ?_
  intro args v h
  unfold s_wlive at h
  split at h
  · simp only [Option.some.injEq] at h; subst h
    refine ⟨by simp only [List.length_cons, List.length_nil]; decide, rfl, rfl, ?_⟩
    obtain ⟨v1, v2, v3, v4⟩ := lw_v
    (try simp (config := { maxSteps := 10000000 }) only [go_sem, List.reduceReplicate, BitVec.reduceOfInt, BitVec.reduceToNat, BitVec.reduceToInt, BitVec.reduceEq, BitVec.reduceLT, BitVec.reduceLE, BitVec.reduceAdd, BitVec.reduceSub, BitVec.reduceMul, BitVec.reduceUDiv, BitVec.reduceUMod, BitVec.reduceAnd, BitVec.reduceOr, BitVec.reduceXOr, BitVec.reduceNot, BitVec.reduceNeg, BitVec.reduceHShiftLeft, BitVec.reduceHShiftRight, Nat.reduceAdd, Nat.reduceMul, Nat.reduceSub, Nat.reduceBEq, Nat.reduceEqDiff, Nat.reduceLeDiff, Nat.reduceLT, Int.reduceLE, Int.reduceLT, Int.reduceAdd, Int.reduceSub, Int.reduceMul, Int.reduceNeg, Int.reduceToNat, Int.reduceEq, ↓reduceIte, reduceCtorEq, s_wbegin_eq, lw0_b, wkC_len, wkC_one, wkC_take, s_wtell_eqn, s_wask_eqn, s_wend_eqn, wkO_0, lw1_t, v1, v2, v3, v4, askC, entC, Sc.one]; repeat (simp (disch := omega) only [w64_d, ipos, ineg, dpos, dneg]; try simp (config := { maxSteps := 10000000 }) only [go_sem, List.reduceReplicate, BitVec.reduceOfInt, BitVec.reduceToNat, BitVec.reduceToInt, BitVec.reduceEq, BitVec.reduceLT, BitVec.reduceLE, BitVec.reduceAdd, BitVec.reduceSub, BitVec.reduceMul, BitVec.reduceUDiv, BitVec.reduceUMod, BitVec.reduceAnd, BitVec.reduceOr, BitVec.reduceXOr, BitVec.reduceNot, BitVec.reduceNeg, BitVec.reduceHShiftLeft, BitVec.reduceHShiftRight, Nat.reduceAdd, Nat.reduceMul, Nat.reduceSub, Nat.reduceBEq, Nat.reduceEqDiff, Nat.reduceLeDiff, Nat.reduceLT, Int.reduceLE, Int.reduceLT, Int.reduceAdd, Int.reduceSub, Int.reduceMul, Int.reduceNeg, Int.reduceToNat, Int.reduceEq, ↓reduceIte, reduceCtorEq, s_wbegin_eq, lw0_b, wkC_len, wkC_one, wkC_take, s_wtell_eqn, s_wask_eqn, s_wend_eqn, wkO_0, lw1_t, v1, v2, v3, v4, askC, entC, Sc.one]))
  · simp at h

theorem run_len (s : Wst) : ∀ (n : Nat) (l : List (BitVec 64 × Bool)), l.length ≤ n → ∀ lev ppn A ag, (runR s l lev ppn A ag).1.length ≤ A.length + 2 * l.length + 1 := by
  intro n
  induction n using Nat.strongRecOn with
  | _ n ih =>
    intro l hl lev ppn A ag
    match l, hl with
    | [], _ => unfold runR; split <;> simp
    | [(d, g)], hl =>
      unfold runR
      repeat' split
      all_goals first
        | (simp; done)
        | (have := ih 0 (by simp at hl; omega) [] (Nat.le_refl _) (w64 (lev - 1)) (cutU d 10 44) (A ++ [(7, ventryU ppn s.va lev, 0#64, 0#64)]) ag; simp at this ⊢; omega)
        | (simp; omega)
    | (d, g) :: (d2, g2) :: r, hl =>
      have hl2 : r.length + 2 ≤ n := by simpa using hl
      unfold runR
      repeat' split
      all_goals first
        | (simp; done)
        | (have := ih (n - 1) (by omega) ((d2, g2) :: r) (by simp; omega) (w64 (lev - 1)) (cutU d 10 44) (A ++ [(7, ventryU ppn s.va lev, 0#64, 0#64)]) ag; simp at this ⊢; omega)
        | (have := ih (n - 2) (by omega) r (by omega) 2 s.ro (A ++ [(7, ventryU ppn s.va lev, 0#64, 0#64)] ++ [(8, ventryU ppn s.va lev, markU d s.ac, d)]) (w64 (ag + 1)); simp at this ⊢; omega)
        | (simp; omega)
theorem res_len {s : Wst} {l : List (BitVec 64 × Bool)} : (resW s l).1.length ≤ 2 * l.length + 1 := by
  unfold resW
  split
  · have := run_len s l.length l (Nat.le_refl _) 2 s.ro [] 0
    simpa using this
  · simp
theorem cs_wk (s : Wst) : csEq [.q, .n, .n, .n, .n, .n, .q, .q, .n, .n, .n, .n, .q, .n] (wkC s) (wkC s) = some true := by
  simp [wkC, csEq, scEq]
theorem lp_bel {H : AH} (hH : belH H = true) (q : List Sc) (s : Wst) (hq : q.all (Sc.bel (H.length + 7)) = true) : belH (H ++ [.own q, .dead, .dead, .dead, .dead, .dead, .own (wkC s)]) = true := by
  unfold belH
  rw [List.all_append, Bool.and_eq_true]
  refine ⟨List.all_eq_true.2 fun o ho => List.all_eq_true.2 fun c hc => ?_, ?_⟩
  · exact Sc.bel_mono (List.all_eq_true.1 (List.all_eq_true.1 hH o ho) c hc) (by simp)
  · have ll : (H ++ [AObj.own q, .dead, .dead, .dead, .dead, .dead, .own (wkC s)]).length = H.length + 7 := by simp
    rw [ll]
    simp only [List.all_cons, List.all_nil, Bool.and_true, oc_own, hq, wkC_bel]
    rfl
def s_wgoes (args : List AV) (H : AH) : Option AV :=
  match args with
  | [.g [.i ln, .u ro, .u va, .i ac, .i pr, .b su, .b mx], .c x] =>
    match slD 42 dcN H x with
    | some L => if L.length ≤ 9223372036854775807 then some (.c (.b true)) else none
    | none => none
  | _ => none
set_option maxHeartbeats 16000000 in
set_option maxRecDepth 100000 in
set_option maxHeartbeats 2000000 in
theorem ok_wgoes : FpOk Try.prog 3 (fun args H => (s_wgoes args H).map fun v => (v, H)) := by
  refine fq_ok (s := s_wgoes) (tab := [(5, .fp s_wtell), (6, .fq s_wask), (7, .fq s_wend), (8, .fq s_wagain), (9, .fq s_wquest), (10, .pu s_wlive), (11, .pu s_wbegin), (13, .pu s_wto), (12, .fp s_rrun)]) hmix (TabOk.cons (e := .fp s_wtell) ok_wtell (TabOk.cons (e := .fq s_wask) ok_wask (TabOk.cons (e := .fq s_wend) ok_wend (TabOk.cons (e := .fq s_wagain) ok_wagain (TabOk.cons (e := .fq s_wquest) ok_wquest (TabOk.cons (e := .pu s_wlive) ok_wlive (TabOk.cons (e := .pu s_wbegin) ok_wbegin (TabOk.cons (e := .pu s_wto) ok_wto (TabOk.cons (e := .fp s_rrun) ok_rrun TabOk.nil))))))))) Try.func3 rfl Try.results3 Try.ntmps3 (by kernel_rfl) (by kernel_rfl) ?_
  intro args H v h hargs hH
  unfold s_wgoes at h
  split at h
  · rename_i ln ro va ac pr su mx x
    split at h
    · rename_i L hL
      split at h
      · rename_i hn
        clear hn
        simp only [Option.some.injEq] at h
        subst h
        refine ⟨by simp only [List.length_cons, List.length_nil]; decide, rfl, ?_⟩
        have bx : x.bel H.length = true := by simp only [List.all_cons, AV.bel, Bool.and_eq_true] at hargs; exact hargs.2.1
        have hx := slD_inv dcN_d hL
        have xl : ∀ e, lenB (.sl e) (.c x) = some (.c (.i L.length)) := by
          intro e
          rcases hx with ⟨rfl, rfl⟩ | ⟨id2, v2, rfl, _, _⟩ <;> rfl
        by_cases h30 : (30 : Int) < (L.length : Int)
        · (try simp (config := { maxSteps := 10000000 }) only [go_sem, List.reduceReplicate, BitVec.reduceOfInt, BitVec.reduceToNat, BitVec.reduceToInt, BitVec.reduceEq, BitVec.reduceLT, BitVec.reduceLE, BitVec.reduceAdd, BitVec.reduceSub, BitVec.reduceMul, BitVec.reduceUDiv, BitVec.reduceUMod, BitVec.reduceAnd, BitVec.reduceOr, BitVec.reduceXOr, BitVec.reduceNot, BitVec.reduceNeg, BitVec.reduceHShiftLeft, BitVec.reduceHShiftRight, Nat.reduceAdd, Nat.reduceMul, Nat.reduceSub, Nat.reduceBEq, Nat.reduceEqDiff, Nat.reduceLeDiff, Nat.reduceLT, Int.reduceLE, Int.reduceLT, Int.reduceAdd, Int.reduceSub, Int.reduceMul, Int.reduceNeg, Int.reduceToNat, Int.reduceEq, ↓reduceIte, reduceCtorEq, s_wtell_eqn, s_wask_eqn, s_wend_eqn, s_wagain_eqn, s_wquest_eqn, s_wlive_eq, wkO_n, wkO_1z, zW_tell, zW_c, zW_ask.1, zW_ask.2.1, zW_ask.2.2.1, zW_ask.2.2.2, Sc.one, q0, askC, entC, xl, h30]; repeat (simp (disch := omega) only [w64_d, ipos, ineg, dpos, dneg]; try simp (config := { maxSteps := 10000000 }) only [go_sem, List.reduceReplicate, BitVec.reduceOfInt, BitVec.reduceToNat, BitVec.reduceToInt, BitVec.reduceEq, BitVec.reduceLT, BitVec.reduceLE, BitVec.reduceAdd, BitVec.reduceSub, BitVec.reduceMul, BitVec.reduceUDiv, BitVec.reduceUMod, BitVec.reduceAnd, BitVec.reduceOr, BitVec.reduceXOr, BitVec.reduceNot, BitVec.reduceNeg, BitVec.reduceHShiftLeft, BitVec.reduceHShiftRight, Nat.reduceAdd, Nat.reduceMul, Nat.reduceSub, Nat.reduceBEq, Nat.reduceEqDiff, Nat.reduceLeDiff, Nat.reduceLT, Int.reduceLE, Int.reduceLT, Int.reduceAdd, Int.reduceSub, Int.reduceMul, Int.reduceNeg, Int.reduceToNat, Int.reduceEq, ↓reduceIte, reduceCtorEq, s_wtell_eqn, s_wask_eqn, s_wend_eqn, s_wagain_eqn, s_wquest_eqn, s_wlive_eq, wkO_n, wkO_1z, zW_tell, zW_c, zW_ask.1, zW_ask.2.1, zW_ask.2.2.1, zW_ask.2.2.2, Sc.one, q0, askC, entC, xl, h30]))
          exact subH_app _ _
        (try simp (config := { maxSteps := 10000000 }) only [go_sem, List.reduceReplicate, BitVec.reduceOfInt, BitVec.reduceToNat, BitVec.reduceToInt, BitVec.reduceEq, BitVec.reduceLT, BitVec.reduceLE, BitVec.reduceAdd, BitVec.reduceSub, BitVec.reduceMul, BitVec.reduceUDiv, BitVec.reduceUMod, BitVec.reduceAnd, BitVec.reduceOr, BitVec.reduceXOr, BitVec.reduceNot, BitVec.reduceNeg, BitVec.reduceHShiftLeft, BitVec.reduceHShiftRight, Nat.reduceAdd, Nat.reduceMul, Nat.reduceSub, Nat.reduceBEq, Nat.reduceEqDiff, Nat.reduceLeDiff, Nat.reduceLT, Int.reduceLE, Int.reduceLT, Int.reduceAdd, Int.reduceSub, Int.reduceMul, Int.reduceNeg, Int.reduceToNat, Int.reduceEq, ↓reduceIte, reduceCtorEq, s_wtell_eqn, s_wask_eqn, s_wend_eqn, s_wagain_eqn, s_wquest_eqn, s_wbegin_eq, wkC_len, wkC_one, wkC_take, wkO_n, wkO_1z, zW_tell, zW_c, zW_ask.1, zW_ask.2.1, zW_ask.2.2.1, zW_ask.2.2.2, Sc.one, q0, askC, entC, xl, h30]; repeat (simp (disch := omega) only [w64_d, ipos, ineg, dpos, dneg]; try simp (config := { maxSteps := 10000000 }) only [go_sem, List.reduceReplicate, BitVec.reduceOfInt, BitVec.reduceToNat, BitVec.reduceToInt, BitVec.reduceEq, BitVec.reduceLT, BitVec.reduceLE, BitVec.reduceAdd, BitVec.reduceSub, BitVec.reduceMul, BitVec.reduceUDiv, BitVec.reduceUMod, BitVec.reduceAnd, BitVec.reduceOr, BitVec.reduceXOr, BitVec.reduceNot, BitVec.reduceNeg, BitVec.reduceHShiftLeft, BitVec.reduceHShiftRight, Nat.reduceAdd, Nat.reduceMul, Nat.reduceSub, Nat.reduceBEq, Nat.reduceEqDiff, Nat.reduceLeDiff, Nat.reduceLT, Int.reduceLE, Int.reduceLT, Int.reduceAdd, Int.reduceSub, Int.reduceMul, Int.reduceNeg, Int.reduceToNat, Int.reduceEq, ↓reduceIte, reduceCtorEq, s_wtell_eqn, s_wask_eqn, s_wend_eqn, s_wagain_eqn, s_wquest_eqn, s_wbegin_eq, wkC_len, wkC_one, wkC_take, wkO_n, wkO_1z, zW_tell, zW_c, zW_ask.1, zW_ask.2.1, zW_ask.2.2.1, zW_ask.2.2.2, Sc.one, q0, askC, entC, xl, h30]))
        have hL30 : L.length ≤ 30 := by omega
        have wq := fun k => wI_q (ln := ln) (ro := ro) (va := va) (ac := ac) (pr := pr) (su := su) (mx := mx) (prN (L.take k))
        have wok := fun k => wI_ok (ln := ln) (ro := ro) (va := va) (ac := ac) (pr := pr) (su := su) (mx := mx) (prN (L.take k))
        refine arun_for (L.length + 1) (fun k => ([(0, .g [.i ln, .u ro, .u va, .i ac, .i pr, .b su, .b mx]), (1, .c x), (2, .c (.p H.length 0 0)), (4, .c (.b false)), (15, .c (.p (H.length + 6) 0 0)), (16, .c (.i k))],
          H ++ [.own [.i ln, .u ro, .u va, .i ac, .i pr, .b su, .b mx], .dead, .dead, .dead, .dead, .dead, .own (wkC (wI ln ro va ac pr su mx (prN (L.take k))))])) ?_ fun k hk => ?_
        -- LOOP
        · refine Wk.wk (by simp [lo]) (by simp [Am.get]) ?_ (subH_pre H ⟨.inr rfl, .inl rfl, .inl rfl, .inl rfl, .inl rfl, .inl rfl, .inr rfl, trivial⟩) (lp_bel hH [.i ln, .u ro, .u va, .i ac, .i pr, .b su, .b mx] _ rfl)
          have hx7 : x.bel (H.length + 7) = true := Sc.bel_mono bx (by omega)
          have ll : ∀ o : List AObj, o.length = 7 → (H ++ o).length = H.length + 7 := fun o ho => by rw [List.length_append, ho]
          rw [ll _ rfl]
          simp only [List.all_cons, List.all_nil, Bool.and_true, Bool.and_eq_true, AV.bel]
          exact ⟨⟨rfl, rfl, rfl, rfl, rfl, rfl, rfl⟩, hx7, by simp [Sc.bel], rfl, by simp [Sc.bel], rfl⟩
        · simp only
          have nx : ∀ (fr : Fr) (w' : Wst) (X : AH), w' = wI ln ro va ac pr su mx (prN (L.take (k + 1))) → (∀ p ∈ ([(0, .g [.i ln, .u ro, .u va, .i ac, .i pr, .b su, .b mx]), (1, .c x), (2, .c (.p H.length 0 0)), (4, .c (.b false)), (15, .c (.p (H.length + 6) 0 0)), (16, .c (.i ((k + 1 : Nat) : Int)))] : Fr), Am.get fr p.1 = p.2) →
              Wk H.length fr (H ++ .own [.i ln, .u ro, .u va, .i ac, .i pr, .b su, .b mx] :: .dead :: .dead :: .dead :: .dead :: .dead :: .own (wkC w') :: X) ([(0, .g [.i ln, .u ro, .u va, .i ac, .i pr, .b su, .b mx]), (1, .c x), (2, .c (.p H.length 0 0)), (4, .c (.b false)), (15, .c (.p (H.length + 6) 0 0)), (16, .c (.i ((k + 1 : Nat) : Int)))],
                H ++ [.own [.i ln, .u ro, .u va, .i ac, .i pr, .b su, .b mx], .dead, .dead, .dead, .dead, .dead, .own (wkC (wI ln ro va ac pr su mx (prN (L.take (k + 1)))))]) := by
            intro fr w' X hw hf
            subst hw
            refine Wk.wk (by simp) hf ?_ (subH_pre H ⟨.inr rfl, .inl rfl, .inl rfl, .inl rfl, .inl rfl, .inl rfl, .inr rfl, trivial⟩) (lp_bel hH [.i ln, .u ro, .u va, .i ac, .i pr, .b su, .b mx] _ rfl)
            have hx7 : x.bel (H.length + 7) = true := Sc.bel_mono bx (by omega)
            have ll : ∀ o : List AObj, o.length = 7 → (H ++ o).length = H.length + 7 := fun o ho => by rw [List.length_append, ho]
            rw [ll _ rfl]
            simp only [List.all_cons, List.all_nil, Bool.and_true, Bool.and_eq_true, AV.bel]
            exact ⟨⟨rfl, rfl, rfl, rfl, rfl, rfl, rfl⟩, hx7, by simp [Sc.bel], rfl, by simp [Sc.bel], rfl⟩
          have k0 : (0 : Int) ≤ (k : Int) := by omega
          by_cases hke : k = L.length + 1
          · have kI : ¬ ((k : Int) ≤ (L.length : Int)) := by omega
            (try simp (config := { maxSteps := 10000000 }) only [go_sem, List.reduceReplicate, BitVec.reduceOfInt, BitVec.reduceToNat, BitVec.reduceToInt, BitVec.reduceEq, BitVec.reduceLT, BitVec.reduceLE, BitVec.reduceAdd, BitVec.reduceSub, BitVec.reduceMul, BitVec.reduceUDiv, BitVec.reduceUMod, BitVec.reduceAnd, BitVec.reduceOr, BitVec.reduceXOr, BitVec.reduceNot, BitVec.reduceNeg, BitVec.reduceHShiftLeft, BitVec.reduceHShiftRight, Nat.reduceAdd, Nat.reduceMul, Nat.reduceSub, Nat.reduceBEq, Nat.reduceEqDiff, Nat.reduceLeDiff, Nat.reduceLT, Int.reduceLE, Int.reduceLT, Int.reduceAdd, Int.reduceSub, Int.reduceMul, Int.reduceNeg, Int.reduceToNat, Int.reduceEq, ↓reduceIte, reduceCtorEq, xl, kI, s_wlive_eq]; repeat (simp (disch := omega) only [w64_d, ipos, ineg, dpos, dneg]; try simp (config := { maxSteps := 10000000 }) only [go_sem, List.reduceReplicate, BitVec.reduceOfInt, BitVec.reduceToNat, BitVec.reduceToInt, BitVec.reduceEq, BitVec.reduceLT, BitVec.reduceLE, BitVec.reduceAdd, BitVec.reduceSub, BitVec.reduceMul, BitVec.reduceUDiv, BitVec.reduceUMod, BitVec.reduceAnd, BitVec.reduceOr, BitVec.reduceXOr, BitVec.reduceNot, BitVec.reduceNeg, BitVec.reduceHShiftLeft, BitVec.reduceHShiftRight, Nat.reduceAdd, Nat.reduceMul, Nat.reduceSub, Nat.reduceBEq, Nat.reduceEqDiff, Nat.reduceLeDiff, Nat.reduceLT, Int.reduceLE, Int.reduceLT, Int.reduceAdd, Int.reduceSub, Int.reduceMul, Int.reduceNeg, Int.reduceToNat, Int.reduceEq, ↓reduceIte, reduceCtorEq, xl, kI, s_wlive_eq]))
            exact subH_app _ _
          have kI : ((k : Int) ≤ (L.length : Int)) := by omega
          have e1 : w64 ((k : Int) + 1) = ((k + 1 : Nat) : Int) := by rw [w64_of (by omega)]; omega
          obtain ⟨hqc, hmade⟩ := wq k
          obtain ⟨o1, o2, o3, o4⟩ := wok k
          have hstep := fun a => wI_step (ln := ln) (ro := ro) (va := va) (ac := ac) (pr := pr) (su := su) (mx := mx) (L := L) (k := k) (a := a)
          have hsame : L.length ≤ k → wI ln ro va ac pr su mx (prN (L.take (k + 1))) = wI ln ro va ac pr su mx (prN (L.take k)) := fun h => by rw [List.take_of_length_le h, List.take_of_length_le (by omega)]
          generalize wI ln ro va ac pr su mx (prN (L.take k)) = w at hqc hmade o1 o2 o3 o4 hstep hsame ⊢
          have hEI : endI w = w.en := by unfold endI; rw [if_pos hmade]
          obtain ⟨pp, ll, tt, hend⟩ : ∃ p l t, endE w = [.i 0, .u p, .i l, .u t] := by
            unfold endE; split <;> exact ⟨_, _, _, rfl⟩
          obtain ⟨kk, aa, zz, dd, oo, hask⟩ : ∃ k a z d o, askW w = askC k a z d o := by
            unfold askW; repeat' split
            all_goals exact ⟨_, _, _, _, _, rfl⟩
          rcases hx with ⟨rfl, hL0⟩ | ⟨id2, v2, rfl, hv2, hcs2⟩
          · have hll : L.length = 0 := by rw [hL0]; rfl
            have hk0 : k = 0 := by omega
            have hk00 : (k : Int) = 0 := by omega
            have hrun : slP 42 dcN (H ++ [.own [.i ln, .u ro, .u va, .i ac, .i pr, .b su, .b mx], .dead, .dead, .dead, .dead, .dead, .own (wkC w)]) .nils = some (L.take k) := by rw [hL0, List.take_nil]; rfl
            have hlen : (L.take k).length ≤ 40 := by rw [List.length_take]; omega
            have rr0 : s_rrun [.g [.i ln, .u ro, .u va, .i ac, .i pr, .b su, .b mx], .c .nils] (H ++ [.own [.i ln, .u ro, .u va, .i ac, .i pr, .b su, .b mx], .dead, .dead, .dead, .dead, .dead, .own (wkC w)]) = some (resV (H.length + 7 + 4) (resW (qW ln ro va ac pr su mx) (prN (L.take k))), resH (H ++ [.own [.i ln, .u ro, .u va, .i ac, .i pr, .b su, .b mx], .dead, .dead, .dead, .dead, .dead, .own (wkC w)]) (resW (qW ln ro va ac pr su mx) (prN (L.take k)))) := by
              simp only [s_rrun, hrun, hlen, if_true, List.length_append, List.length_cons, List.length_nil]
            have hal := res_len (s := qW ln ro va ac pr su mx) (l := prN (L.take k))
            have hpl : (prN (L.take k)).length ≤ 40 := by unfold prN; rw [List.length_map]; exact hlen
            generalize resW (qW ln ro va ac pr su mx) (prN (L.take k)) = R at o1 o2 o3 o4 rr0 hal
            obtain ⟨A, en', e', ag'⟩ := R
            simp only at o1 o2 o3 o4 hal
            subst o1
            subst o2
            subst o3
            rw [hend] at rr0
            by_cases hA0 : A = []
            · have rr := rr0
              subst hA0
              simp only [resV, resH, if_true, List.cons_append, List.nil_append, List.append_assoc] at rr
              have hen : ¬ w.en = 0 := fun h => by obtain ⟨B, y, hB, _⟩ := o4 h; simp at hB
              have hed : endedW w = true := by unfold endedW; rw [hmade]; simp [hen]
              have hask0 : askW w = askC 0 0#64 0 0#64 0#64 := if_pos hed
              have kI1 : ¬ ((k : Int) < (L.length : Int)) := by omega
              (try simp (config := { maxSteps := 10000000 }) only [go_sem, List.reduceReplicate, BitVec.reduceOfInt, BitVec.reduceToNat, BitVec.reduceToInt, BitVec.reduceEq, BitVec.reduceLT, BitVec.reduceLE, BitVec.reduceAdd, BitVec.reduceSub, BitVec.reduceMul, BitVec.reduceUDiv, BitVec.reduceUMod, BitVec.reduceAnd, BitVec.reduceOr, BitVec.reduceXOr, BitVec.reduceNot, BitVec.reduceNeg, BitVec.reduceHShiftLeft, BitVec.reduceHShiftRight, Nat.reduceAdd, Nat.reduceMul, Nat.reduceSub, Nat.reduceBEq, Nat.reduceEqDiff, Nat.reduceLeDiff, Nat.reduceLT, Int.reduceLE, Int.reduceLT, Int.reduceAdd, Int.reduceSub, Int.reduceMul, Int.reduceNeg, Int.reduceToNat, Int.reduceEq, ↓reduceIte, reduceCtorEq, s_wtell_eqn, s_wask_eqn, s_wend_eqn, s_wagain_eqn, s_wquest_eqn, s_wto_eq, wkC_len, wkC_one, wkC_take, wkO_6, wkO_10, cs_wk, Sc.one, xl, kI, kI1, k0, hk00, hll, Int.toNat_natCast, Nat.sub_zero, rr, hend, hEI, hqc, e1, hen, hed, hask0, hk00, hll, askC]; repeat (simp (disch := omega) only [w64_d, ipos, ineg, dpos, dneg]; try simp (config := { maxSteps := 10000000 }) only [go_sem, List.reduceReplicate, BitVec.reduceOfInt, BitVec.reduceToNat, BitVec.reduceToInt, BitVec.reduceEq, BitVec.reduceLT, BitVec.reduceLE, BitVec.reduceAdd, BitVec.reduceSub, BitVec.reduceMul, BitVec.reduceUDiv, BitVec.reduceUMod, BitVec.reduceAnd, BitVec.reduceOr, BitVec.reduceXOr, BitVec.reduceNot, BitVec.reduceNeg, BitVec.reduceHShiftLeft, BitVec.reduceHShiftRight, Nat.reduceAdd, Nat.reduceMul, Nat.reduceSub, Nat.reduceBEq, Nat.reduceEqDiff, Nat.reduceLeDiff, Nat.reduceLT, Int.reduceLE, Int.reduceLT, Int.reduceAdd, Int.reduceSub, Int.reduceMul, Int.reduceNeg, Int.reduceToNat, Int.reduceEq, ↓reduceIte, reduceCtorEq, s_wtell_eqn, s_wask_eqn, s_wend_eqn, s_wagain_eqn, s_wquest_eqn, s_wto_eq, wkC_len, wkC_one, wkC_take, wkO_6, wkO_10, cs_wk, Sc.one, xl, kI, kI1, k0, hk00, hll, Int.toNat_natCast, Nat.sub_zero, rr, hend, hEI, hqc, e1, hen, hed, hask0, hk00, hll, askC]))
              refine ⟨nvc (by first | exact nvw_refl _ | exact nvw_7 rfl) (by decide), ⟨by decide, fun h => absurd h (by omega)⟩, ?_⟩
              exact ⟨k + 1, by omega, by omega, nx _ _ _ (hsame (by omega)).symm (by simp [Am.get, hk0])⟩
            · have rr := rr0
              simp only [resV, resH, hA0, if_false, List.cons_append, List.nil_append, List.append_assoc, Nat.add_assoc, Nat.reduceAdd] at rr
              by_cases hen : w.en = 0
              · have hed : endedW w = false := by unfold endedW; rw [hmade, hen]; rfl
                obtain ⟨B, y, hB, hy⟩ := o4 hen
                have hAl : A.length = B.length + 1 := by rw [hB]; simp
                have hAm : A.length ≤ 100 := by omega
                have hvec : ((A.flatMap encK).drop ((B.length) * 19)).take 19 = [.i kk, .u aa, .u 0#64, .i 0, .i zz, .i 0, .u dd, .u oo, .b false, .i 0, .b false, .b false, .b false, .u 0#64, .i 0, .i 0, .u 0#64, .i 0, .u 0#64] := by
                  have : A[B.length]? = some y := by rw [hB]; simp
                  rw [fm_get encK_l this, hy, hask]; rfl
                have hvl : True → (A.flatMap encK).length = A.length * 19 := fun _ => fm_len encK_l A
                have hAn : w64 ((A.length : Int) - 1) = (B.length : Int) := by rw [w64_of (by omega)]; omega
                have hAi : ((B.length : Int) < (A.length : Int)) := by omega
                have hAz : (0 : Int) ≤ (B.length : Int) := by omega
                have hAt : (B.length * 19 + 19 ≤ A.length * 19) = True := eq_true (by omega)
                have kI1 : ¬ ((k : Int) < (L.length : Int)) := by omega
                (try simp (config := { maxSteps := 10000000 }) only [go_sem, List.reduceReplicate, BitVec.reduceOfInt, BitVec.reduceToNat, BitVec.reduceToInt, BitVec.reduceEq, BitVec.reduceLT, BitVec.reduceLE, BitVec.reduceAdd, BitVec.reduceSub, BitVec.reduceMul, BitVec.reduceUDiv, BitVec.reduceUMod, BitVec.reduceAnd, BitVec.reduceOr, BitVec.reduceXOr, BitVec.reduceNot, BitVec.reduceNeg, BitVec.reduceHShiftLeft, BitVec.reduceHShiftRight, Nat.reduceAdd, Nat.reduceMul, Nat.reduceSub, Nat.reduceBEq, Nat.reduceEqDiff, Nat.reduceLeDiff, Nat.reduceLT, Int.reduceLE, Int.reduceLT, Int.reduceAdd, Int.reduceSub, Int.reduceMul, Int.reduceNeg, Int.reduceToNat, Int.reduceEq, ↓reduceIte, reduceCtorEq, s_wtell_eqn, s_wask_eqn, s_wend_eqn, s_wagain_eqn, s_wquest_eqn, s_wto_eq, wkC_len, wkC_one, wkC_take, wkO_6, wkO_15, cs_wk, Sc.one, xl, kI, kI1, k0, hk00, hll, Int.toNat_natCast, Nat.sub_zero, rr, hend, hEI, hqc, e1, hen, hed, hask, askC, hvec, hvl, hAn, hAi, hAz, hAt]; repeat (simp (disch := omega) only [w64_d, ipos, ineg, dpos, dneg]; try simp (config := { maxSteps := 10000000 }) only [go_sem, List.reduceReplicate, BitVec.reduceOfInt, BitVec.reduceToNat, BitVec.reduceToInt, BitVec.reduceEq, BitVec.reduceLT, BitVec.reduceLE, BitVec.reduceAdd, BitVec.reduceSub, BitVec.reduceMul, BitVec.reduceUDiv, BitVec.reduceUMod, BitVec.reduceAnd, BitVec.reduceOr, BitVec.reduceXOr, BitVec.reduceNot, BitVec.reduceNeg, BitVec.reduceHShiftLeft, BitVec.reduceHShiftRight, Nat.reduceAdd, Nat.reduceMul, Nat.reduceSub, Nat.reduceBEq, Nat.reduceEqDiff, Nat.reduceLeDiff, Nat.reduceLT, Int.reduceLE, Int.reduceLT, Int.reduceAdd, Int.reduceSub, Int.reduceMul, Int.reduceNeg, Int.reduceToNat, Int.reduceEq, ↓reduceIte, reduceCtorEq, s_wtell_eqn, s_wask_eqn, s_wend_eqn, s_wagain_eqn, s_wquest_eqn, s_wto_eq, wkC_len, wkC_one, wkC_take, wkO_6, wkO_15, cs_wk, Sc.one, xl, kI, kI1, k0, hk00, hll, Int.toNat_natCast, Nat.sub_zero, rr, hend, hEI, hqc, e1, hen, hed, hask, askC, hvec, hvl, hAn, hAi, hAz, hAt]))
                refine ⟨nvc (by first | exact nvw_refl _ | exact nvw_7 rfl) (by decide), ⟨by decide, fun h => absurd h (by omega)⟩, ?_⟩
                exact ⟨k + 1, by omega, by omega, nx _ _ _ (hsame (by omega)).symm (by simp [Am.get, hk0])⟩
              · have hed : endedW w = true := by unfold endedW; rw [hmade]; simp [hen]
                have hask0 : askW w = askC 0 0#64 0 0#64 0#64 := if_pos hed
                have kI1 : ¬ ((k : Int) < (L.length : Int)) := by omega
                (try simp (config := { maxSteps := 10000000 }) only [go_sem, List.reduceReplicate, BitVec.reduceOfInt, BitVec.reduceToNat, BitVec.reduceToInt, BitVec.reduceEq, BitVec.reduceLT, BitVec.reduceLE, BitVec.reduceAdd, BitVec.reduceSub, BitVec.reduceMul, BitVec.reduceUDiv, BitVec.reduceUMod, BitVec.reduceAnd, BitVec.reduceOr, BitVec.reduceXOr, BitVec.reduceNot, BitVec.reduceNeg, BitVec.reduceHShiftLeft, BitVec.reduceHShiftRight, Nat.reduceAdd, Nat.reduceMul, Nat.reduceSub, Nat.reduceBEq, Nat.reduceEqDiff, Nat.reduceLeDiff, Nat.reduceLT, Int.reduceLE, Int.reduceLT, Int.reduceAdd, Int.reduceSub, Int.reduceMul, Int.reduceNeg, Int.reduceToNat, Int.reduceEq, ↓reduceIte, reduceCtorEq, s_wtell_eqn, s_wask_eqn, s_wend_eqn, s_wagain_eqn, s_wquest_eqn, s_wto_eq, wkC_len, wkC_one, wkC_take, wkO_6, wkO_15, cs_wk, Sc.one, xl, kI, kI1, k0, hk00, hll, Int.toNat_natCast, Nat.sub_zero, rr, hend, hEI, hqc, e1, hen, hed, hask0, hk00, hll, askC]; repeat (simp (disch := omega) only [w64_d, ipos, ineg, dpos, dneg]; try simp (config := { maxSteps := 10000000 }) only [go_sem, List.reduceReplicate, BitVec.reduceOfInt, BitVec.reduceToNat, BitVec.reduceToInt, BitVec.reduceEq, BitVec.reduceLT, BitVec.reduceLE, BitVec.reduceAdd, BitVec.reduceSub, BitVec.reduceMul, BitVec.reduceUDiv, BitVec.reduceUMod, BitVec.reduceAnd, BitVec.reduceOr, BitVec.reduceXOr, BitVec.reduceNot, BitVec.reduceNeg, BitVec.reduceHShiftLeft, BitVec.reduceHShiftRight, Nat.reduceAdd, Nat.reduceMul, Nat.reduceSub, Nat.reduceBEq, Nat.reduceEqDiff, Nat.reduceLeDiff, Nat.reduceLT, Int.reduceLE, Int.reduceLT, Int.reduceAdd, Int.reduceSub, Int.reduceMul, Int.reduceNeg, Int.reduceToNat, Int.reduceEq, ↓reduceIte, reduceCtorEq, s_wtell_eqn, s_wask_eqn, s_wend_eqn, s_wagain_eqn, s_wquest_eqn, s_wto_eq, wkC_len, wkC_one, wkC_take, wkO_6, wkO_15, cs_wk, Sc.one, xl, kI, kI1, k0, hk00, hll, Int.toNat_natCast, Nat.sub_zero, rr, hend, hEI, hqc, e1, hen, hed, hask0, hk00, hll, askC]))
                refine ⟨nvc (by first | exact nvw_refl _ | exact nvw_7 rfl) (by decide), ⟨by decide, fun h => absurd h (by omega)⟩, ?_⟩
                exact ⟨k + 1, by omega, by omega, nx _ _ _ (hsame (by omega)).symm (by simp [Am.get, hk0])⟩
          · have lid2 : id2 < H.length := by simpa [Sc.bel] using bx
            have kn : (k : Int).toNat = k := by omega
            have hrun : slP 42 dcN (H ++ [.own [.i ln, .u ro, .u va, .i ac, .i pr, .b su, .b mx], .dead, .dead, .dead, .dead, .dead, .own (wkC w)]) (.sl id2 0 v2 k) = some (L.take k) := slP_of encN_l dcN_e (by rw [hg_lt' lid2]; exact hv2) (by omega) (by rw [hg_lt' lid2]; exact hcs2)
            have hlen : (L.take k).length ≤ 40 := by rw [List.length_take]; omega
            have rr0 : s_rrun [.g [.i ln, .u ro, .u va, .i ac, .i pr, .b su, .b mx], .c (.sl id2 0 v2 k)] (H ++ [.own [.i ln, .u ro, .u va, .i ac, .i pr, .b su, .b mx], .dead, .dead, .dead, .dead, .dead, .own (wkC w)]) = some (resV (H.length + 7 + 4) (resW (qW ln ro va ac pr su mx) (prN (L.take k))), resH (H ++ [.own [.i ln, .u ro, .u va, .i ac, .i pr, .b su, .b mx], .dead, .dead, .dead, .dead, .dead, .own (wkC w)]) (resW (qW ln ro va ac pr su mx) (prN (L.take k)))) := by
              simp only [s_rrun, hrun, hlen, if_true, List.length_append, List.length_cons, List.length_nil]
            have hal := res_len (s := qW ln ro va ac pr su mx) (l := prN (L.take k))
            have hpl : (prN (L.take k)).length ≤ 40 := by unfold prN; rw [List.length_map]; exact hlen
            generalize resW (qW ln ro va ac pr su mx) (prN (L.take k)) = R at o1 o2 o3 o4 rr0 hal
            obtain ⟨A, en', e', ag'⟩ := R
            simp only at o1 o2 o3 o4 hal
            subst o1
            subst o2
            subst o3
            rw [hend] at rr0
            by_cases hA0 : A = []
            · have rr := rr0
              subst hA0
              simp only [resV, resH, if_true, List.cons_append, List.nil_append, List.append_assoc] at rr
              have hen : ¬ w.en = 0 := fun h => by obtain ⟨B, y, hB, _⟩ := o4 h; simp at hB
              have hed : endedW w = true := by unfold endedW; rw [hmade]; simp [hen]
              have hask0 : askW w = askC 0 0#64 0 0#64 0#64 := if_pos hed
              by_cases hlt : k < L.length
              · obtain ⟨a, ha⟩ : ∃ a, L[k]? = some a := ⟨_, List.getElem?_eq_getElem hlt⟩
                have gx2 : ∀ X, hg (H ++ X) id2 = hg H id2 := fun X => hg_lt' lid2
                have hv2 := hv2.symm
                obtain ⟨m, em, lm, om⟩ := encN_e a
                have g3 : ((hg H id2).cells.drop (k * 42)).take 42 = .u (dN a) :: .b (gN a) :: m := by
                  rw [hcs2, fm_get encN_l ha]; exact em
                have b1 : (k * 42 + 42 ≤ (hg H id2).cells.length) = True := eq_true (by rw [hcs2]; exact fm_le encN_l hlt)
                have kI1 : ((k : Int) < (L.length : Int)) := by omega
                have tk : m.take 40 = m := by rw [← lm, List.take_length]
                (try simp (config := { maxSteps := 10000000 }) only [go_sem, List.reduceReplicate, BitVec.reduceOfInt, BitVec.reduceToNat, BitVec.reduceToInt, BitVec.reduceEq, BitVec.reduceLT, BitVec.reduceLE, BitVec.reduceAdd, BitVec.reduceSub, BitVec.reduceMul, BitVec.reduceUDiv, BitVec.reduceUMod, BitVec.reduceAnd, BitVec.reduceOr, BitVec.reduceXOr, BitVec.reduceNot, BitVec.reduceNeg, BitVec.reduceHShiftLeft, BitVec.reduceHShiftRight, Nat.reduceAdd, Nat.reduceMul, Nat.reduceSub, Nat.reduceBEq, Nat.reduceEqDiff, Nat.reduceLeDiff, Nat.reduceLT, Int.reduceLE, Int.reduceLT, Int.reduceAdd, Int.reduceSub, Int.reduceMul, Int.reduceNeg, Int.reduceToNat, Int.reduceEq, ↓reduceIte, reduceCtorEq, s_wtell_eqn, s_wask_eqn, s_wend_eqn, s_wagain_eqn, s_wquest_eqn, s_wto_eq, wkC_len, wkC_one, wkC_take, wkO_6, wkO_10, cs_wk, Sc.one, xl, kI, kI1, k0, Int.toNat_natCast, Nat.sub_zero, rr, hend, hEI, hqc, e1, hen, hed, hask0, askC, gx2, hv2, g3, b1, lm, om, tk]; repeat (simp (disch := omega) only [w64_d, ipos, ineg, dpos, dneg]; try simp (config := { maxSteps := 10000000 }) only [go_sem, List.reduceReplicate, BitVec.reduceOfInt, BitVec.reduceToNat, BitVec.reduceToInt, BitVec.reduceEq, BitVec.reduceLT, BitVec.reduceLE, BitVec.reduceAdd, BitVec.reduceSub, BitVec.reduceMul, BitVec.reduceUDiv, BitVec.reduceUMod, BitVec.reduceAnd, BitVec.reduceOr, BitVec.reduceXOr, BitVec.reduceNot, BitVec.reduceNeg, BitVec.reduceHShiftLeft, BitVec.reduceHShiftRight, Nat.reduceAdd, Nat.reduceMul, Nat.reduceSub, Nat.reduceBEq, Nat.reduceEqDiff, Nat.reduceLeDiff, Nat.reduceLT, Int.reduceLE, Int.reduceLT, Int.reduceAdd, Int.reduceSub, Int.reduceMul, Int.reduceNeg, Int.reduceToNat, Int.reduceEq, ↓reduceIte, reduceCtorEq, s_wtell_eqn, s_wask_eqn, s_wend_eqn, s_wagain_eqn, s_wquest_eqn, s_wto_eq, wkC_len, wkC_one, wkC_take, wkO_6, wkO_10, cs_wk, Sc.one, xl, kI, kI1, k0, Int.toNat_natCast, Nat.sub_zero, rr, hend, hEI, hqc, e1, hen, hed, hask0, askC, gx2, hv2, g3, b1, lm, om, tk]))
                refine ⟨nvc (by first | exact nvw_refl _ | exact nvw_7 rfl) (by decide), ⟨by decide, fun h => absurd h (by omega)⟩, ?_⟩
                exact ⟨k + 1, by omega, by omega, nx _ _ _ (hstep a ha).symm (by simp [Am.get])⟩
              · have kI1 : ¬ ((k : Int) < (L.length : Int)) := by omega
                (try simp (config := { maxSteps := 10000000 }) only [go_sem, List.reduceReplicate, BitVec.reduceOfInt, BitVec.reduceToNat, BitVec.reduceToInt, BitVec.reduceEq, BitVec.reduceLT, BitVec.reduceLE, BitVec.reduceAdd, BitVec.reduceSub, BitVec.reduceMul, BitVec.reduceUDiv, BitVec.reduceUMod, BitVec.reduceAnd, BitVec.reduceOr, BitVec.reduceXOr, BitVec.reduceNot, BitVec.reduceNeg, BitVec.reduceHShiftLeft, BitVec.reduceHShiftRight, Nat.reduceAdd, Nat.reduceMul, Nat.reduceSub, Nat.reduceBEq, Nat.reduceEqDiff, Nat.reduceLeDiff, Nat.reduceLT, Int.reduceLE, Int.reduceLT, Int.reduceAdd, Int.reduceSub, Int.reduceMul, Int.reduceNeg, Int.reduceToNat, Int.reduceEq, ↓reduceIte, reduceCtorEq, s_wtell_eqn, s_wask_eqn, s_wend_eqn, s_wagain_eqn, s_wquest_eqn, s_wto_eq, wkC_len, wkC_one, wkC_take, wkO_6, wkO_10, cs_wk, Sc.one, xl, kI, kI1, k0, Int.toNat_natCast, Nat.sub_zero, rr, hend, hEI, hqc, e1, hen, hed, hask0, askC]; repeat (simp (disch := omega) only [w64_d, ipos, ineg, dpos, dneg]; try simp (config := { maxSteps := 10000000 }) only [go_sem, List.reduceReplicate, BitVec.reduceOfInt, BitVec.reduceToNat, BitVec.reduceToInt, BitVec.reduceEq, BitVec.reduceLT, BitVec.reduceLE, BitVec.reduceAdd, BitVec.reduceSub, BitVec.reduceMul, BitVec.reduceUDiv, BitVec.reduceUMod, BitVec.reduceAnd, BitVec.reduceOr, BitVec.reduceXOr, BitVec.reduceNot, BitVec.reduceNeg, BitVec.reduceHShiftLeft, BitVec.reduceHShiftRight, Nat.reduceAdd, Nat.reduceMul, Nat.reduceSub, Nat.reduceBEq, Nat.reduceEqDiff, Nat.reduceLeDiff, Nat.reduceLT, Int.reduceLE, Int.reduceLT, Int.reduceAdd, Int.reduceSub, Int.reduceMul, Int.reduceNeg, Int.reduceToNat, Int.reduceEq, ↓reduceIte, reduceCtorEq, s_wtell_eqn, s_wask_eqn, s_wend_eqn, s_wagain_eqn, s_wquest_eqn, s_wto_eq, wkC_len, wkC_one, wkC_take, wkO_6, wkO_10, cs_wk, Sc.one, xl, kI, kI1, k0, Int.toNat_natCast, Nat.sub_zero, rr, hend, hEI, hqc, e1, hen, hed, hask0, askC]))
                refine ⟨nvc (by first | exact nvw_refl _ | exact nvw_7 rfl) (by decide), ⟨by decide, fun h => absurd h (by omega)⟩, ?_⟩
                exact ⟨k + 1, by omega, by omega, nx _ _ _ (hsame (by omega)).symm (by simp [Am.get])⟩
            · have rr := rr0
              simp only [resV, resH, hA0, if_false, List.cons_append, List.nil_append, List.append_assoc, Nat.add_assoc, Nat.reduceAdd] at rr
              by_cases hen : w.en = 0
              · have hed : endedW w = false := by unfold endedW; rw [hmade, hen]; rfl
                obtain ⟨B, y, hB, hy⟩ := o4 hen
                have hAl : A.length = B.length + 1 := by rw [hB]; simp
                have hAm : A.length ≤ 100 := by omega
                have hvec : ((A.flatMap encK).drop ((B.length) * 19)).take 19 = [.i kk, .u aa, .u 0#64, .i 0, .i zz, .i 0, .u dd, .u oo, .b false, .i 0, .b false, .b false, .b false, .u 0#64, .i 0, .i 0, .u 0#64, .i 0, .u 0#64] := by
                  have : A[B.length]? = some y := by rw [hB]; simp
                  rw [fm_get encK_l this, hy, hask]; rfl
                have hvl : True → (A.flatMap encK).length = A.length * 19 := fun _ => fm_len encK_l A
                have hAn : w64 ((A.length : Int) - 1) = (B.length : Int) := by rw [w64_of (by omega)]; omega
                have hAi : ((B.length : Int) < (A.length : Int)) := by omega
                have hAz : (0 : Int) ≤ (B.length : Int) := by omega
                have hAt : (B.length * 19 + 19 ≤ A.length * 19) = True := eq_true (by omega)
                by_cases hlt : k < L.length
                · obtain ⟨a, ha⟩ : ∃ a, L[k]? = some a := ⟨_, List.getElem?_eq_getElem hlt⟩
                  have gx2 : ∀ X, hg (H ++ X) id2 = hg H id2 := fun X => hg_lt' lid2
                  have hv2 := hv2.symm
                  obtain ⟨m, em, lm, om⟩ := encN_e a
                  have g3 : ((hg H id2).cells.drop (k * 42)).take 42 = .u (dN a) :: .b (gN a) :: m := by
                    rw [hcs2, fm_get encN_l ha]; exact em
                  have b1 : (k * 42 + 42 ≤ (hg H id2).cells.length) = True := eq_true (by rw [hcs2]; exact fm_le encN_l hlt)
                  have kI1 : ((k : Int) < (L.length : Int)) := by omega
                  have tk : m.take 40 = m := by rw [← lm, List.take_length]
                  (try simp (config := { maxSteps := 10000000 }) only [go_sem, List.reduceReplicate, BitVec.reduceOfInt, BitVec.reduceToNat, BitVec.reduceToInt, BitVec.reduceEq, BitVec.reduceLT, BitVec.reduceLE, BitVec.reduceAdd, BitVec.reduceSub, BitVec.reduceMul, BitVec.reduceUDiv, BitVec.reduceUMod, BitVec.reduceAnd, BitVec.reduceOr, BitVec.reduceXOr, BitVec.reduceNot, BitVec.reduceNeg, BitVec.reduceHShiftLeft, BitVec.reduceHShiftRight, Nat.reduceAdd, Nat.reduceMul, Nat.reduceSub, Nat.reduceBEq, Nat.reduceEqDiff, Nat.reduceLeDiff, Nat.reduceLT, Int.reduceLE, Int.reduceLT, Int.reduceAdd, Int.reduceSub, Int.reduceMul, Int.reduceNeg, Int.reduceToNat, Int.reduceEq, ↓reduceIte, reduceCtorEq, s_wtell_eqn, s_wask_eqn, s_wend_eqn, s_wagain_eqn, s_wquest_eqn, s_wto_eq, wkC_len, wkC_one, wkC_take, wkO_6, wkO_15, cs_wk, Sc.one, xl, kI, kI1, k0, Int.toNat_natCast, Nat.sub_zero, rr, hend, hEI, hqc, e1, hen, hed, hask, askC, hvec, hvl, hAn, hAi, hAz, hAt, gx2, hv2, g3, b1, lm, om, tk]; repeat (simp (disch := omega) only [w64_d, ipos, ineg, dpos, dneg]; try simp (config := { maxSteps := 10000000 }) only [go_sem, List.reduceReplicate, BitVec.reduceOfInt, BitVec.reduceToNat, BitVec.reduceToInt, BitVec.reduceEq, BitVec.reduceLT, BitVec.reduceLE, BitVec.reduceAdd, BitVec.reduceSub, BitVec.reduceMul, BitVec.reduceUDiv, BitVec.reduceUMod, BitVec.reduceAnd, BitVec.reduceOr, BitVec.reduceXOr, BitVec.reduceNot, BitVec.reduceNeg, BitVec.reduceHShiftLeft, BitVec.reduceHShiftRight, Nat.reduceAdd, Nat.reduceMul, Nat.reduceSub, Nat.reduceBEq, Nat.reduceEqDiff, Nat.reduceLeDiff, Nat.reduceLT, Int.reduceLE, Int.reduceLT, Int.reduceAdd, Int.reduceSub, Int.reduceMul, Int.reduceNeg, Int.reduceToNat, Int.reduceEq, ↓reduceIte, reduceCtorEq, s_wtell_eqn, s_wask_eqn, s_wend_eqn, s_wagain_eqn, s_wquest_eqn, s_wto_eq, wkC_len, wkC_one, wkC_take, wkO_6, wkO_15, cs_wk, Sc.one, xl, kI, kI1, k0, Int.toNat_natCast, Nat.sub_zero, rr, hend, hEI, hqc, e1, hen, hed, hask, askC, hvec, hvl, hAn, hAi, hAz, hAt, gx2, hv2, g3, b1, lm, om, tk]))
                  refine ⟨nvc (by first | exact nvw_refl _ | exact nvw_7 rfl) (by decide), ⟨by decide, fun h => absurd h (by omega)⟩, ?_⟩
                  exact ⟨k + 1, by omega, by omega, nx _ _ _ (hstep a ha).symm (by simp [Am.get])⟩
                · have kI1 : ¬ ((k : Int) < (L.length : Int)) := by omega
                  (try simp (config := { maxSteps := 10000000 }) only [go_sem, List.reduceReplicate, BitVec.reduceOfInt, BitVec.reduceToNat, BitVec.reduceToInt, BitVec.reduceEq, BitVec.reduceLT, BitVec.reduceLE, BitVec.reduceAdd, BitVec.reduceSub, BitVec.reduceMul, BitVec.reduceUDiv, BitVec.reduceUMod, BitVec.reduceAnd, BitVec.reduceOr, BitVec.reduceXOr, BitVec.reduceNot, BitVec.reduceNeg, BitVec.reduceHShiftLeft, BitVec.reduceHShiftRight, Nat.reduceAdd, Nat.reduceMul, Nat.reduceSub, Nat.reduceBEq, Nat.reduceEqDiff, Nat.reduceLeDiff, Nat.reduceLT, Int.reduceLE, Int.reduceLT, Int.reduceAdd, Int.reduceSub, Int.reduceMul, Int.reduceNeg, Int.reduceToNat, Int.reduceEq, ↓reduceIte, reduceCtorEq, s_wtell_eqn, s_wask_eqn, s_wend_eqn, s_wagain_eqn, s_wquest_eqn, s_wto_eq, wkC_len, wkC_one, wkC_take, wkO_6, wkO_15, cs_wk, Sc.one, xl, kI, kI1, k0, Int.toNat_natCast, Nat.sub_zero, rr, hend, hEI, hqc, e1, hen, hed, hask, askC, hvec, hvl, hAn, hAi, hAz, hAt]; repeat (simp (disch := omega) only [w64_d, ipos, ineg, dpos, dneg]; try simp (config := { maxSteps := 10000000 }) only [go_sem, List.reduceReplicate, BitVec.reduceOfInt, BitVec.reduceToNat, BitVec.reduceToInt, BitVec.reduceEq, BitVec.reduceLT, BitVec.reduceLE, BitVec.reduceAdd, BitVec.reduceSub, BitVec.reduceMul, BitVec.reduceUDiv, BitVec.reduceUMod, BitVec.reduceAnd, BitVec.reduceOr, BitVec.reduceXOr, BitVec.reduceNot, BitVec.reduceNeg, BitVec.reduceHShiftLeft, BitVec.reduceHShiftRight, Nat.reduceAdd, Nat.reduceMul, Nat.reduceSub, Nat.reduceBEq, Nat.reduceEqDiff, Nat.reduceLeDiff, Nat.reduceLT, Int.reduceLE, Int.reduceLT, Int.reduceAdd, Int.reduceSub, Int.reduceMul, Int.reduceNeg, Int.reduceToNat, Int.reduceEq, ↓reduceIte, reduceCtorEq, s_wtell_eqn, s_wask_eqn, s_wend_eqn, s_wagain_eqn, s_wquest_eqn, s_wto_eq, wkC_len, wkC_one, wkC_take, wkO_6, wkO_15, cs_wk, Sc.one, xl, kI, kI1, k0, Int.toNat_natCast, Nat.sub_zero, rr, hend, hEI, hqc, e1, hen, hed, hask, askC, hvec, hvl, hAn, hAi, hAz, hAt]))
                  refine ⟨nvc (by first | exact nvw_refl _ | exact nvw_7 rfl) (by decide), ⟨by decide, fun h => absurd h (by omega)⟩, ?_⟩
                  exact ⟨k + 1, by omega, by omega, nx _ _ _ (hsame (by omega)).symm (by simp [Am.get])⟩
              · have hed : endedW w = true := by unfold endedW; rw [hmade]; simp [hen]
                have hask0 : askW w = askC 0 0#64 0 0#64 0#64 := if_pos hed
                by_cases hlt : k < L.length
                · obtain ⟨a, ha⟩ : ∃ a, L[k]? = some a := ⟨_, List.getElem?_eq_getElem hlt⟩
                  have gx2 : ∀ X, hg (H ++ X) id2 = hg H id2 := fun X => hg_lt' lid2
                  have hv2 := hv2.symm
                  obtain ⟨m, em, lm, om⟩ := encN_e a
                  have g3 : ((hg H id2).cells.drop (k * 42)).take 42 = .u (dN a) :: .b (gN a) :: m := by
                    rw [hcs2, fm_get encN_l ha]; exact em
                  have b1 : (k * 42 + 42 ≤ (hg H id2).cells.length) = True := eq_true (by rw [hcs2]; exact fm_le encN_l hlt)
                  have kI1 : ((k : Int) < (L.length : Int)) := by omega
                  have tk : m.take 40 = m := by rw [← lm, List.take_length]
                  (try simp (config := { maxSteps := 10000000 }) only [go_sem, List.reduceReplicate, BitVec.reduceOfInt, BitVec.reduceToNat, BitVec.reduceToInt, BitVec.reduceEq, BitVec.reduceLT, BitVec.reduceLE, BitVec.reduceAdd, BitVec.reduceSub, BitVec.reduceMul, BitVec.reduceUDiv, BitVec.reduceUMod, BitVec.reduceAnd, BitVec.reduceOr, BitVec.reduceXOr, BitVec.reduceNot, BitVec.reduceNeg, BitVec.reduceHShiftLeft, BitVec.reduceHShiftRight, Nat.reduceAdd, Nat.reduceMul, Nat.reduceSub, Nat.reduceBEq, Nat.reduceEqDiff, Nat.reduceLeDiff, Nat.reduceLT, Int.reduceLE, Int.reduceLT, Int.reduceAdd, Int.reduceSub, Int.reduceMul, Int.reduceNeg, Int.reduceToNat, Int.reduceEq, ↓reduceIte, reduceCtorEq, s_wtell_eqn, s_wask_eqn, s_wend_eqn, s_wagain_eqn, s_wquest_eqn, s_wto_eq, wkC_len, wkC_one, wkC_take, wkO_6, wkO_15, cs_wk, Sc.one, xl, kI, kI1, k0, Int.toNat_natCast, Nat.sub_zero, rr, hend, hEI, hqc, e1, hen, hed, hask0, askC, gx2, hv2, g3, b1, lm, om, tk]; repeat (simp (disch := omega) only [w64_d, ipos, ineg, dpos, dneg]; try simp (config := { maxSteps := 10000000 }) only [go_sem, List.reduceReplicate, BitVec.reduceOfInt, BitVec.reduceToNat, BitVec.reduceToInt, BitVec.reduceEq, BitVec.reduceLT, BitVec.reduceLE, BitVec.reduceAdd, BitVec.reduceSub, BitVec.reduceMul, BitVec.reduceUDiv, BitVec.reduceUMod, BitVec.reduceAnd, BitVec.reduceOr, BitVec.reduceXOr, BitVec.reduceNot, BitVec.reduceNeg, BitVec.reduceHShiftLeft, BitVec.reduceHShiftRight, Nat.reduceAdd, Nat.reduceMul, Nat.reduceSub, Nat.reduceBEq, Nat.reduceEqDiff, Nat.reduceLeDiff, Nat.reduceLT, Int.reduceLE, Int.reduceLT, Int.reduceAdd, Int.reduceSub, Int.reduceMul, Int.reduceNeg, Int.reduceToNat, Int.reduceEq, ↓reduceIte, reduceCtorEq, s_wtell_eqn, s_wask_eqn, s_wend_eqn, s_wagain_eqn, s_wquest_eqn, s_wto_eq, wkC_len, wkC_one, wkC_take, wkO_6, wkO_15, cs_wk, Sc.one, xl, kI, kI1, k0, Int.toNat_natCast, Nat.sub_zero, rr, hend, hEI, hqc, e1, hen, hed, hask0, askC, gx2, hv2, g3, b1, lm, om, tk]))
                  refine ⟨nvc (by first | exact nvw_refl _ | exact nvw_7 rfl) (by decide), ⟨by decide, fun h => absurd h (by omega)⟩, ?_⟩
                  exact ⟨k + 1, by omega, by omega, nx _ _ _ (hstep a ha).symm (by simp [Am.get])⟩
                · have kI1 : ¬ ((k : Int) < (L.length : Int)) := by omega
                  (try simp (config := { maxSteps := 10000000 }) only [go_sem, List.reduceReplicate, BitVec.reduceOfInt, BitVec.reduceToNat, BitVec.reduceToInt, BitVec.reduceEq, BitVec.reduceLT, BitVec.reduceLE, BitVec.reduceAdd, BitVec.reduceSub, BitVec.reduceMul, BitVec.reduceUDiv, BitVec.reduceUMod, BitVec.reduceAnd, BitVec.reduceOr, BitVec.reduceXOr, BitVec.reduceNot, BitVec.reduceNeg, BitVec.reduceHShiftLeft, BitVec.reduceHShiftRight, Nat.reduceAdd, Nat.reduceMul, Nat.reduceSub, Nat.reduceBEq, Nat.reduceEqDiff, Nat.reduceLeDiff, Nat.reduceLT, Int.reduceLE, Int.reduceLT, Int.reduceAdd, Int.reduceSub, Int.reduceMul, Int.reduceNeg, Int.reduceToNat, Int.reduceEq, ↓reduceIte, reduceCtorEq, s_wtell_eqn, s_wask_eqn, s_wend_eqn, s_wagain_eqn, s_wquest_eqn, s_wto_eq, wkC_len, wkC_one, wkC_take, wkO_6, wkO_15, cs_wk, Sc.one, xl, kI, kI1, k0, Int.toNat_natCast, Nat.sub_zero, rr, hend, hEI, hqc, e1, hen, hed, hask0, askC]; repeat (simp (disch := omega) only [w64_d, ipos, ineg, dpos, dneg]; try simp (config := { maxSteps := 10000000 }) only [go_sem, List.reduceReplicate, BitVec.reduceOfInt, BitVec.reduceToNat, BitVec.reduceToInt, BitVec.reduceEq, BitVec.reduceLT, BitVec.reduceLE, BitVec.reduceAdd, BitVec.reduceSub, BitVec.reduceMul, BitVec.reduceUDiv, BitVec.reduceUMod, BitVec.reduceAnd, BitVec.reduceOr, BitVec.reduceXOr, BitVec.reduceNot, BitVec.reduceNeg, BitVec.reduceHShiftLeft, BitVec.reduceHShiftRight, Nat.reduceAdd, Nat.reduceMul, Nat.reduceSub, Nat.reduceBEq, Nat.reduceEqDiff, Nat.reduceLeDiff, Nat.reduceLT, Int.reduceLE, Int.reduceLT, Int.reduceAdd, Int.reduceSub, Int.reduceMul, Int.reduceNeg, Int.reduceToNat, Int.reduceEq, ↓reduceIte, reduceCtorEq, s_wtell_eqn, s_wask_eqn, s_wend_eqn, s_wagain_eqn, s_wquest_eqn, s_wto_eq, wkC_len, wkC_one, wkC_take, wkO_6, wkO_15, cs_wk, Sc.one, xl, kI, kI1, k0, Int.toNat_natCast, Nat.sub_zero, rr, hend, hEI, hqc, e1, hen, hed, hask0, askC]))
                  refine ⟨nvc (by first | exact nvw_refl _ | exact nvw_7 rfl) (by decide), ⟨by decide, fun h => absurd h (by omega)⟩, ?_⟩
                  exact ⟨k + 1, by omega, by omega, nx _ _ _ (hsame (by omega)).symm (by simp [Am.get])⟩
      · simp at h
    · simp at h
  · simp at h

theorem fitN {cs : List Sc} (h : L2 FitK cs (.n .u64 :: .q :: (List.replicate 8 [K.q, .q, .q, .n .u64, .n .i64]).flatten)) : ∃ a : Ans, cs = encN a ∧ True := by
  have one : ∀ {l : List Sc} {ks : List K}, L2 FitK l ks → l.all Sc.one = true := by
    intro l ks h
    induction h with
    | nil => rfl
    | @cons s k l m h1 h2 ih =>
      have : s.one = true := by cases s <;> first | rfl | (cases k <;> simp [FitK] at h1)
      rw [List.all_cons, this, ih]; rfl
  obtain ⟨s0, t0, rfl, k0, g2⟩ := fit_cons h
  obtain ⟨s1, t1, rfl, k1, g3⟩ := fit_cons g2
  obtain ⟨d, rfl⟩ := fk_u k0
  obtain ⟨g, rfl⟩ := fk_q k1
  exact ⟨⟨_, d, g, t1, rfl, by rw [L2.length g3]; rfl, one g3⟩, rfl, trivial⟩
theorem sig_wgoes (avs : List AV) (H : AH) (h : SigA [.fl true [.n .i64, .n .u64, .n .u64, .n .i64, .n .i64, .q, .q], .sl (.n .u64 :: .q :: (List.replicate 8 [K.q, .q, .q, .n .u64, .n .i64]).flatten)] avs H) : s_wgoes avs H = some (.c (.b true)) := by
  obtain ⟨l0, r0, rfl, g0, h9⟩ := sig_g h
  obtain ⟨s0, t0, rfl, k0, g1⟩ := fit_cons g0
  obtain ⟨s1, t1, rfl, k1, g2⟩ := fit_cons g1
  obtain ⟨s2, t2, rfl, k2, g3⟩ := fit_cons g2
  obtain ⟨s3, t3, rfl, k3, g4⟩ := fit_cons g3
  obtain ⟨s4, t4, rfl, k4, g5⟩ := fit_cons g4
  obtain ⟨s5, t5, rfl, k5, g6⟩ := fit_cons g5
  obtain ⟨s6, t6, rfl, k6, g7⟩ := fit_cons g6
  obtain rfl := fit_nil g7
  obtain ⟨x0, rfl, _⟩ := fk_i k0
  obtain ⟨x1, rfl⟩ := fk_u k1
  obtain ⟨x2, rfl⟩ := fk_u k2
  obtain ⟨x3, rfl, _⟩ := fk_i k3
  obtain ⟨x4, rfl, _⟩ := fk_i k4
  obtain ⟨x5, rfl⟩ := fk_q k5
  obtain ⟨x6, rfl⟩ := fk_q k6
  obtain ⟨x, r, rfl, h10, L, hL, _, hn⟩ := sig_row (fun cs h => fitN h) encN_l dcN_e h9
  obtain rfl := sig_nil h10
  simp only [s_wgoes, hL, hn, if_true]
end
end Go.Proofs.Ytanblagbkhpolaa
