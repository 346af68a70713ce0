/- The law MailKeeps. -/
import Derived.Test.YthjhkckndnhjpaaMa2
import Derived.Test.YthjhkckndnhjpaaV2
import Derived.Test.YthjhkckndnhjpaaP1
import Derived.Test.YthjhkckndnhjpaaFr
namespace Go.Proofs.Ythjhkckndnhjpaa
open Go.Am
set_option linter.unusedSimpArgs false
set_option linter.unusedVariables false
noncomputable section

def fgB (q : Rq) (e0 : Int) (ep : BitVec 64) (el : Int) (pt : BitVec 64) : Bool :=
  q.s && ((!q.v || decide (vpageU q.a el = vpageU ep el)) && (!q.d || (decide (e0 = q.i) && !bitB pt (posC 71))))
def s_forgets (args : List AV) : Option AV :=
  match args with
  | [.g [.b s, .b v, .b d, .u a, .i i], .g [.i e0, .u ep, .i el, .u pt]] => some (.c (.b (fgB ⟨s, v, d, a, i⟩ e0 ep el pt)))
  | _ => none
theorem s_forgets_eq {s v d a i e0 ep el pt} : s_forgets [.g [.b s, .b v, .b d, .u a, .i i], .g [.i e0, .u ep, .i el, .u pt]] = some (.c (.b (fgB ⟨s, v, d, a, i⟩ e0 ep el pt))) := rfl
set_option maxRecDepth 100000 in
set_option maxHeartbeats 2000000 in
theorem ok_forgets : PuOk Try.prog 8 s_forgets := by
  refine pu_ok (tab := [(16, .pu s_rpage), (17, .pu s_rbit25)]) hmix (TabOk.cons (e := .pu s_rpage) ok_rpage (TabOk.cons (e := .pu s_rbit25) ok_rbit25 TabOk.nil)) Try.func8 rfl Try.results8 Try.ntmps8 (by kernel_rfl) (by kernel_rfl) ?_
  intro args v h
  unfold s_forgets at h
  split at h
  · rename_i s v d a i e0 ep el pt
    simp only [Option.some.injEq] at h; subst h
    refine ⟨by simp only [List.length_cons, List.length_nil]; decide, rfl, rfl, ?_⟩
    have h71 : ((71 : Int) = 86 ∨ (71 : Int) = 82 ∨ (71 : Int) = 87 ∨ (71 : Int) = 88 ∨ (71 : Int) = 85 ∨ (71 : Int) = 71 ∨ (71 : Int) = 65 ∨ (71 : Int) = 68) = True := by decide
    cases s
    all_goals cases v
    all_goals cases d
    all_goals by_cases h1 : vpageU a el = vpageU ep el
    all_goals by_cases h2 : e0 = i
    all_goals (try simp (config := { maxSteps := 10000000 }) only [go_sem, List.reduceReplicate, BitVec.reduceOfInt, BitVec.reduceToNat, BitVec.reduceToInt, BitVec.reduceEq, BitVec.reduceLT, BitVec.reduceLE, BitVec.reduceAdd, BitVec.reduceSub, BitVec.reduceMul, BitVec.reduceUDiv, BitVec.reduceUMod, BitVec.reduceAnd, BitVec.reduceOr, BitVec.reduceXOr, BitVec.reduceNot, BitVec.reduceNeg, BitVec.reduceHShiftLeft, BitVec.reduceHShiftRight, Nat.reduceAdd, Nat.reduceMul, Nat.reduceSub, Nat.reduceBEq, Nat.reduceEqDiff, Nat.reduceLeDiff, Nat.reduceLT, Int.reduceLE, Int.reduceLT, Int.reduceAdd, Int.reduceSub, Int.reduceMul, Int.reduceNeg, Int.reduceToNat, Int.reduceEq, ↓reduceIte, reduceCtorEq, s_rpage_eq, s_rbit25_eq, fgB, h1, h2, h71, Bool.true_or, Bool.or_true, Bool.false_or, Bool.or_false]; repeat (simp (disch := omega) only [w64_d, ipos, ineg, dpos, dneg]; try simp (config := { maxSteps := 10000000 }) only [go_sem, List.reduceReplicate, BitVec.reduceOfInt, BitVec.reduceToNat, BitVec.reduceToInt, BitVec.reduceEq, BitVec.reduceLT, BitVec.reduceLE, BitVec.reduceAdd, BitVec.reduceSub, BitVec.reduceMul, BitVec.reduceUDiv, BitVec.reduceUMod, BitVec.reduceAnd, BitVec.reduceOr, BitVec.reduceXOr, BitVec.reduceNot, BitVec.reduceNeg, BitVec.reduceHShiftLeft, BitVec.reduceHShiftRight, Nat.reduceAdd, Nat.reduceMul, Nat.reduceSub, Nat.reduceBEq, Nat.reduceEqDiff, Nat.reduceLeDiff, Nat.reduceLT, Int.reduceLE, Int.reduceLT, Int.reduceAdd, Int.reduceSub, Int.reduceMul, Int.reduceNeg, Int.reduceToNat, Int.reduceEq, ↓reduceIte, reduceCtorEq, s_rpage_eq, s_rbit25_eq, fgB, h1, h2, h71, Bool.true_or, Bool.or_true, Bool.false_or, Bool.or_false]))
  · simp at h
theorem plain_fg (q : Rq) (e0 : Int) (ep : BitVec 64) (el : Int) (pt : BitVec 64) : fgB (plainR q) e0 ep el pt = fgB q e0 ep el pt := by
  obtain ⟨s, v, d, a, i⟩ := q
  cases v <;> cases d <;> simp [fgB, plainR]
def okQ (q : Rq) : Bool := q.s && (decide (0 ≤ q.i) && decide (q.i ≤ 65535))
theorem may_post (q : Rq) : mlMay 3 2 13 0 q.s q.i = okQ q := by
  obtain ⟨s, v, d, a, i⟩ := q
  unfold mlMay okQ
  rw [if_pos (by decide), if_neg (by decide), if_pos rfl]
  cases s
  · rfl
  · by_cases h1 : i < 0
    · simp [h1] <;> omega
    · by_cases h2 : 65535 < i
      · simp [h1, h2] <;> omega
      · have : inH 3 0 = true := by decide
        simp [h1, h2, this] <;> omega
/-- the slot behind some posts -/
def slotK : List Rq → Rq → Rq
  | [], r => r
  | q :: l, r => slotK l (if okQ q = true then mergeR r q else r)
theorem slotK_app (l m : List Rq) (r : Rq) : slotK (l ++ m) r = slotK m (slotK l r) := by
  induction l generalizing r with
  | nil => rfl
  | cons q l ih => exact ih _
def anyK (l : List Rq) : Bool := l.any okQ
def wantK (l : List Rq) (e0 : Int) (ep : BitVec 64) (el : Int) (pt : BitVec 64) : Bool := l.any fun q => okQ q && fgB q e0 ep el pt
theorem keep_inv (l : List Rq) (e0 : Int) (ep : BitVec 64) (el : Int) (pt : BitVec 64) : (slotK l rq0).s = anyK l ∧ (anyK l = false → slotK l rq0 = rq0) ∧ (wantK l e0 ep el pt = true → fgB (slotK l rq0) e0 ep el pt = true) := by
  have key : ∀ (l : List Rq) (r : Rq) (a w : Bool), r.s = a → (a = false → r = rq0) → (w = true → fgB r e0 ep el pt = true) →
      (slotK l r).s = (a || anyK l) ∧ ((a || anyK l) = false → slotK l r = rq0) ∧ ((w || wantK l e0 ep el pt) = true → fgB (slotK l r) e0 ep el pt = true) := by
    intro l
    induction l with
    | nil => intro r a w h1 h2 h3; simpa [slotK, anyK, wantK] using ⟨h1, h2, h3⟩
    | cons q l ih =>
      intro r a w h1 h2 h3
      cases hq : okQ q
      · have := ih r a w h1 h2 h3
        simpa [slotK, anyK, wantK, hq] using this
      · have hs : q.s = true := by unfold okQ at hq; simp only [Bool.and_eq_true] at hq; exact hq.1
        have hp : (plainR q).s = true := hs
        have m1 : (mergeR r q).s = true := by
          unfold mergeR; split
          · exact hp
          · rfl
        have m2 : fgB q e0 ep el pt = true → fgB (mergeR r q) e0 ep el pt = true := by
          intro hf; unfold mergeR; split
          · rw [plain_fg]; exact hf
          · rfl
        have m3 : fgB r e0 ep el pt = true → fgB (mergeR r q) e0 ep el pt = true := by
          intro hf; unfold mergeR; split
          · rename_i h
            rcases h with h | h
            · have : fgB r e0 ep el pt = false := by unfold fgB; rw [h]; rfl
              rw [this] at hf; simp at hf
            · rw [eqR_iff] at h; rw [← h]; exact hf
          · rfl
        have := ih (mergeR r q) true (w || fgB q e0 ep el pt) m1 (by simp) (by
          intro h
          simp only [Bool.or_eq_true] at h
          rcases h with h | h
          · exact m3 (h3 h)
          · exact m2 h)
        simpa [slotK, anyK, wantK, hq, Bool.or_assoc] using this
  simpa using key l rq0 false false rfl (fun _ => rfl) (by simp)
theorem setZ (a b : Rq) : setR (setR Z8 0 2 a) 0 2 b = setR Z8 0 2 b := rfl
theorem slotZ (a : Rq) : slotR (setR Z8 0 2 a) 0 2 = a := rfl
theorem setZ0 : setR Z8 0 2 rq0 = Z8 := rfl
theorem lenZ (a : Rq) : (setR Z8 0 2 a).length = 8 := rfl
theorem post_B (r q : Rq) : doB 3 (setR Z8 0 2 r) 2 13 0 q = setR Z8 0 2 (if okQ q = true then mergeR r q else r) := by
  unfold doB
  rw [may_post]
  cases okQ q
  · rfl
  · rw [if_pos rfl, if_pos rfl, if_pos rfl]; rfl
theorem check_A (r : Rq) : doA 3 (setR Z8 0 2 r) 2 14 0 rq0 = ansC 0#64 (eqR r rq0) row0 := rfl
theorem check_B (r : Rq) : doB 3 (setR Z8 0 2 r) 2 14 0 rq0 = setR Z8 0 2 r := rfl
theorem drain_A (r : Rq) : doA 3 (setR Z8 0 2 r) 0 12 0 rq0 = ansC 0#64 false ⟨[rq0, rq0, r, rq0, rq0, rq0, rq0, rq0], rfl⟩ := rfl
theorem drain_B (r : Rq) : doB 3 (setR Z8 0 2 r) 0 12 0 rq0 = Z8 := rfl
theorem check2_A : doA 3 Z8 2 14 0 rq0 = ansC 0#64 true row0 := rfl
theorem check2_B : doB 3 Z8 2 14 0 rq0 = Z8 := rfl
theorem mays : mlMay 3 2 14 0 false 0 = true ∧ mlMay 3 0 12 0 false 0 = true := by decide

def lq1 : Rq := ⟨true, true, false, 4096#64, 0⟩
def lq2 : Rq := ⟨true, true, false, 8192#64, 0⟩
def lB1 : List Row := doB 2 Z8 0 13 1 lq1
def lB2 : List Row := doB 2 lB1 0 13 1 lq2
def lB3 : List Row := doB 2 lB2 1 12 0 rq0
theorem lB1_len : lB1.length = 8 := doB_len
theorem lB2_len : lB2.length = 8 := doB_len.trans lB1_len
theorem lB3_len : lB3.length = 8 := doB_len.trans lB2_len
theorem lA2 : doA 2 lB2 1 12 0 rq0 = ansC 0#64 false ⟨[⟨true, false, false, 0#64, 0⟩, rq0, rq0, rq0, rq0, rq0, rq0, rq0], rfl⟩ := by kernel_rfl
theorem lA3 : doA 2 lB3 0 14 1 rq0 = ansC 0#64 true row0 := by kernel_rfl
theorem lmays : mlMay 2 1 12 0 false 0 = true ∧ mlMay 2 0 14 1 false 0 = true := by decide
set_option maxRecDepth 100000 in
theorem mlf (m : Int) : (mlC m Z8).drop 321 = [] ∧ (mlC m Z8).all Sc.one = true ∧ (mlC m Z8).length = 321 := ⟨List.drop_of_length_le (by rw [mlC_len _ Z8_len]; omega), rfl, mlC_len _ Z8_len⟩
def s_live29 (args : List AV) : Option AV :=
  match args with
  | [] => some (.c (.b true))
  | _ => none
theorem s_live29_eq : s_live29 [] = some (.c (.b true)) := rfl
set_option maxRecDepth 100000 in
set_option maxHeartbeats 2000000 in
theorem ok_live29 : PuOk Try.prog 5 s_live29 := by
  refine pu_ok (tab := [(6, .pu s_mnew), (7, .fp s_mdo)]) hmix (TabOk.cons (e := .pu s_mnew) ok_mnew (TabOk.cons (e := .fp s_mdo) ok_mdo TabOk.nil)) Try.func5 rfl Try.results5 Try.ntmps5 (by kernel_rfl) (by kernel_rfl) ?_
  intro args v h
  unfold s_live29 at h
  split at h
  · simp only [Option.some.injEq] at h; subst h
    refine ⟨by simp only [List.length_cons, List.length_nil]; decide, rfl, rfl, ?_⟩
    obtain ⟨f1, f2, f3⟩ := mlf 2
    have n2 : (if (1 : Int) ≤ 2 ∧ (2 : Int) ≤ 8 then (2 : Int) else 0) = 2 := by decide
    have z0 := mlC_len 0 Z8_len
    have z1 : (mlC 0 Z8).drop 321 = [] := (mlf 0).1
    have k1 : ∀ X, s_mdo [.c (.p 0 0 0), .c (.i 0), .g [.i 13, .u 0#64, .u 0#64, .i 0, .i 0, .i 0, .u 0#64, .u 0#64, .b false, .i 1, .b true, .b true, .b false, .u 4096#64, .i 0, .i 0, .u 0#64, .i 0, .u 0#64]] (.own (mlC 2 Z8) :: X) = some (.t [.g (doA 2 Z8 0 13 1 lq1), .c (.b (mlMay 2 0 13 1 true 0))], .own (mlC 2 lB1) :: X) := fun X => s_mdo_eq rfl Z8_len (by decide)
    have k2 : ∀ X, s_mdo [.c (.p 0 0 0), .c (.i 0), .g [.i 13, .u 0#64, .u 0#64, .i 0, .i 0, .i 0, .u 0#64, .u 0#64, .b false, .i 1, .b true, .b true, .b false, .u 8192#64, .i 0, .i 0, .u 0#64, .i 0, .u 0#64]] (.own (mlC 2 lB1) :: X) = some (.t [.g (doA 2 lB1 0 13 1 lq2), .c (.b (mlMay 2 0 13 1 true 0))], .own (mlC 2 lB2) :: X) := fun X => s_mdo_eq rfl lB1_len (by decide)
    have k3 : ∀ X, s_mdo [.c (.p 0 0 0), .c (.i 1), .g [.i 12, .u 0#64, .u 0#64, .i 0, .i 0, .i 0, .u 0#64, .u 0#64, .b false, .i 0, .b false, .b false, .b false, .u 0#64, .i 0, .i 0, .u 0#64, .i 0, .u 0#64]] (.own (mlC 2 lB2) :: X) = some (.t [.g (doA 2 lB2 1 12 0 rq0), .c (.b (mlMay 2 1 12 0 false 0))], .own (mlC 2 lB3) :: X) := fun X => s_mdo_eq rfl lB2_len (by decide)
    have k4 : ∀ X, s_mdo [.c (.p 0 0 0), .c (.i 0), .g [.i 14, .u 0#64, .u 0#64, .i 0, .i 0, .i 0, .u 0#64, .u 0#64, .b false, .i 1, .b false, .b false, .b false, .u 0#64, .i 0, .i 0, .u 0#64, .i 0, .u 0#64]] (.own (mlC 2 lB3) :: X) = some (.t [.g (doA 2 lB3 0 14 1 rq0), .c (.b (mlMay 2 0 14 1 false 0))], .own (mlC 2 (doB 2 lB3 0 14 1 rq0)) :: X) := fun X => s_mdo_eq rfl lB3_len (by decide)
    rw [lA2] at k3
    rw [lA3] at k4
    have rr : rowC ⟨[⟨true, false, false, 0#64, 0⟩, rq0, rq0, rq0, rq0, rq0, rq0, rq0], rfl⟩ = [.b true, .b false, .b false, .u 0#64, .i 0, .b false, .b false, .b false, .u 0#64, .i 0, .b false, .b false, .b false, .u 0#64, .i 0, .b false, .b false, .b false, .u 0#64, .i 0, .b false, .b false, .b false, .u 0#64, .i 0, .b false, .b false, .b false, .u 0#64, .i 0, .b false, .b false, .b false, .u 0#64, .i 0, .b false, .b false, .b false, .u 0#64, .i 0] := rfl
    (try simp (config := { maxSteps := 10000000 }) only [go_sem, List.reduceReplicate, BitVec.reduceOfInt, BitVec.reduceToNat, BitVec.reduceToInt, BitVec.reduceEq, BitVec.reduceLT, BitVec.reduceLE, BitVec.reduceAdd, BitVec.reduceSub, BitVec.reduceMul, BitVec.reduceUDiv, BitVec.reduceUMod, BitVec.reduceAnd, BitVec.reduceOr, BitVec.reduceXOr, BitVec.reduceNot, BitVec.reduceNeg, BitVec.reduceHShiftLeft, BitVec.reduceHShiftRight, Nat.reduceAdd, Nat.reduceMul, Nat.reduceSub, Nat.reduceBEq, Nat.reduceEqDiff, Nat.reduceLeDiff, Nat.reduceLT, Int.reduceLE, Int.reduceLT, Int.reduceAdd, Int.reduceSub, Int.reduceMul, Int.reduceNeg, Int.reduceToNat, Int.reduceEq, ↓reduceIte, reduceCtorEq, s_mnew_eq, n2, zMail, z0, z1, f1, f2, f3, k1, k2, k3, k4, lmays.1, lmays.2, ansC, rr, rowC_0]; repeat (simp (disch := omega) only [w64_d, ipos, ineg, dpos, dneg]; try simp (config := { maxSteps := 10000000 }) only [go_sem, List.reduceReplicate, BitVec.reduceOfInt, BitVec.reduceToNat, BitVec.reduceToInt, BitVec.reduceEq, BitVec.reduceLT, BitVec.reduceLE, BitVec.reduceAdd, BitVec.reduceSub, BitVec.reduceMul, BitVec.reduceUDiv, BitVec.reduceUMod, BitVec.reduceAnd, BitVec.reduceOr, BitVec.reduceXOr, BitVec.reduceNot, BitVec.reduceNeg, BitVec.reduceHShiftLeft, BitVec.reduceHShiftRight, Nat.reduceAdd, Nat.reduceMul, Nat.reduceSub, Nat.reduceBEq, Nat.reduceEqDiff, Nat.reduceLeDiff, Nat.reduceLT, Int.reduceLE, Int.reduceLT, Int.reduceAdd, Int.reduceSub, Int.reduceMul, Int.reduceNeg, Int.reduceToNat, Int.reduceEq, ↓reduceIte, reduceCtorEq, s_mnew_eq, n2, zMail, z0, z1, f1, f2, f3, k1, k2, k3, k4, lmays.1, lmays.2, ansC, rr, rowC_0]))
  · simp at h
theorem doA_len (n : Int) (B : List Row) (hart k h : Int) (q : Rq) : (doA n B hart k h q).length = 42 := by
  unfold doA ansC
  repeat' split
  all_goals simp [rowC_l]
theorem doA_one (n : Int) (B : List Row) (hart k h : Int) (q : Rq) : (doA n B hart k h q).all Sc.one = true := by
  unfold doA ansC
  repeat' split
  all_goals simp only [List.all_cons, rowC_one]; rfl
theorem subH_3 {H X : AH} {a b : AObj} : subH (H ++ [a, b]) (H ++ a :: b :: X) := by
  have := subH_app (H ++ [a, b]) X
  rw [List.append_assoc] at this
  exact this
def s_mkeeps (args : List AV) (H : AH) : Option AV :=
  match args with
  | [.c x, .g [.i _, .u _, .i _, .u _]] =>
    match slD 5 dcR H x with
    | some L => if L.length ≤ 9223372036854775807 then some (.c (.b true)) else none
    | _ => none
  | _ => none
theorem s_mkeeps_inv {args : List AV} {H : AH} {v : AV} (h : s_mkeeps args H = some v) : ∃ x e0 ep el pt L, args = [.c x, .g [.i e0, .u ep, .i el, .u pt]] ∧ slD 5 dcR H x = some L ∧ L.length ≤ 9223372036854775807 ∧ v = .c (.b true) := by
  unfold s_mkeeps at h
  split at h
  · split at h
    · split at h
      · rename_i h1 h2
        simp only [Option.some.injEq] at h
        exact ⟨_, _, _, _, _, _, rfl, h1, h2, h.symm⟩
      · simp at h
    · simp at h
  · simp at h
theorem bel_app2 {H : AH} {x o : AObj} (hH : belH H = true) (hx : x.cells.all (Sc.bel (H.length + 2)) = true) (ho : o.cells.all (Sc.bel (H.length + 2)) = true) : belH (H ++ [x, o]) = true := by
  simp only [belH, List.all_append, List.all_cons, List.all_nil, Bool.and_true, Bool.and_eq_true, List.length_append, List.length_cons, List.length_nil]
  refine ⟨List.all_eq_true.2 fun x hx => List.all_eq_true.2 fun s hs => ?_, hx, ho⟩
  have := List.all_eq_true.1 (List.all_eq_true.1 hH x hx) s hs
  exact Sc.bel_mono this (by omega)
set_option maxHeartbeats 8000000 in
set_option maxRecDepth 100000 in
set_option maxHeartbeats 2000000 in
theorem ok_mkeeps : FpOk Try.prog 3 (fun args H => (s_mkeeps args H).map fun v => (v, H)) := by
  refine fq_ok (s := s_mkeeps) (tab := [(5, .pu s_live29), (6, .pu s_mnew), (7, .fp s_mdo), (8, .pu s_forgets)]) hmix (TabOk.cons (e := .pu s_live29) ok_live29 (TabOk.cons (e := .pu s_mnew) ok_mnew (TabOk.cons (e := .fp s_mdo) ok_mdo (TabOk.cons (e := .pu s_forgets) ok_forgets TabOk.nil)))) Try.func3 rfl Try.results3 Try.ntmps3 (by kernel_rfl) (by kernel_rfl) ?_
  intro args H v h hargs hH
  obtain ⟨x, e0, ep, el, pt, L, rfl, h1, hL, rfl⟩ := s_mkeeps_inv h
  refine ⟨by simp only [List.length_cons, List.length_nil]; decide, rfl, ?_⟩
  have bx : x.bel H.length = true := by simp only [List.all_cons, AV.bel, Bool.and_eq_true] at hargs; exact hargs.1
  have xl : ∀ e, lenB (.sl e) (.c x) = some (.c (.i L.length)) := by
    intro e
    rcases slD_inv dcR_d h1 with ⟨rfl, rfl⟩ | ⟨id2, v2, rfl, hv2, hcs2⟩ <;> rfl
  by_cases h40 : (40 : Int) < (L.length : Int)
  · (try simp (config := { maxSteps := 10000000 }) only [go_sem, List.reduceReplicate, BitVec.reduceOfInt, BitVec.reduceToNat, BitVec.reduceToInt, BitVec.reduceEq, BitVec.reduceLT, BitVec.reduceLE, BitVec.reduceAdd, BitVec.reduceSub, BitVec.reduceMul, BitVec.reduceUDiv, BitVec.reduceUMod, BitVec.reduceAnd, BitVec.reduceOr, BitVec.reduceXOr, BitVec.reduceNot, BitVec.reduceNeg, BitVec.reduceHShiftLeft, BitVec.reduceHShiftRight, Nat.reduceAdd, Nat.reduceMul, Nat.reduceSub, Nat.reduceBEq, Nat.reduceEqDiff, Nat.reduceLeDiff, Nat.reduceLT, Int.reduceLE, Int.reduceLT, Int.reduceAdd, Int.reduceSub, Int.reduceMul, Int.reduceNeg, Int.reduceToNat, Int.reduceEq, ↓reduceIte, reduceCtorEq, s_live29_eq, s_mnew_eq, s_mdo_eq, s_forgets_eq, xl, h40]; repeat (simp (disch := omega) only [w64_d, ipos, ineg, dpos, dneg]; try simp (config := { maxSteps := 10000000 }) only [go_sem, List.reduceReplicate, BitVec.reduceOfInt, BitVec.reduceToNat, BitVec.reduceToInt, BitVec.reduceEq, BitVec.reduceLT, BitVec.reduceLE, BitVec.reduceAdd, BitVec.reduceSub, BitVec.reduceMul, BitVec.reduceUDiv, BitVec.reduceUMod, BitVec.reduceAnd, BitVec.reduceOr, BitVec.reduceXOr, BitVec.reduceNot, BitVec.reduceNeg, BitVec.reduceHShiftLeft, BitVec.reduceHShiftRight, Nat.reduceAdd, Nat.reduceMul, Nat.reduceSub, Nat.reduceBEq, Nat.reduceEqDiff, Nat.reduceLeDiff, Nat.reduceLT, Int.reduceLE, Int.reduceLT, Int.reduceAdd, Int.reduceSub, Int.reduceMul, Int.reduceNeg, Int.reduceToNat, Int.reduceEq, ↓reduceIte, reduceCtorEq, s_live29_eq, s_mnew_eq, s_mdo_eq, s_forgets_eq, xl, h40]))
    exact subH_app _ _
  obtain ⟨f1, f2, f3⟩ := mlf 3
  have n3 : (if (1 : Int) ≤ 3 ∧ (3 : Int) ≤ 8 then (3 : Int) else 0) = 3 := by decide
  have z0 := mlC_len 0 Z8_len
  have z1 : (mlC 0 Z8).drop 321 = [] := (mlf 0).1
  (try simp (config := { maxSteps := 10000000 }) only [go_sem, List.reduceReplicate, BitVec.reduceOfInt, BitVec.reduceToNat, BitVec.reduceToInt, BitVec.reduceEq, BitVec.reduceLT, BitVec.reduceLE, BitVec.reduceAdd, BitVec.reduceSub, BitVec.reduceMul, BitVec.reduceUDiv, BitVec.reduceUMod, BitVec.reduceAnd, BitVec.reduceOr, BitVec.reduceXOr, BitVec.reduceNot, BitVec.reduceNeg, BitVec.reduceHShiftLeft, BitVec.reduceHShiftRight, Nat.reduceAdd, Nat.reduceMul, Nat.reduceSub, Nat.reduceBEq, Nat.reduceEqDiff, Nat.reduceLeDiff, Nat.reduceLT, Int.reduceLE, Int.reduceLT, Int.reduceAdd, Int.reduceSub, Int.reduceMul, Int.reduceNeg, Int.reduceToNat, Int.reduceEq, ↓reduceIte, reduceCtorEq, s_live29_eq, s_mnew_eq, xl, h40, n3, zMail, z0, z1, f1, f2, f3]; repeat (simp (disch := omega) only [w64_d, ipos, ineg, dpos, dneg]; try simp (config := { maxSteps := 10000000 }) only [go_sem, List.reduceReplicate, BitVec.reduceOfInt, BitVec.reduceToNat, BitVec.reduceToInt, BitVec.reduceEq, BitVec.reduceLT, BitVec.reduceLE, BitVec.reduceAdd, BitVec.reduceSub, BitVec.reduceMul, BitVec.reduceUDiv, BitVec.reduceUMod, BitVec.reduceAnd, BitVec.reduceOr, BitVec.reduceXOr, BitVec.reduceNot, BitVec.reduceNeg, BitVec.reduceHShiftLeft, BitVec.reduceHShiftRight, Nat.reduceAdd, Nat.reduceMul, Nat.reduceSub, Nat.reduceBEq, Nat.reduceEqDiff, Nat.reduceLeDiff, Nat.reduceLT, Int.reduceLE, Int.reduceLT, Int.reduceAdd, Int.reduceSub, Int.reduceMul, Int.reduceNeg, Int.reduceToNat, Int.reduceEq, ↓reduceIte, reduceCtorEq, s_live29_eq, s_mnew_eq, xl, h40, n3, zMail, z0, z1, f1, f2, f3]))
  refine arun_for L.length (fun k => ([(0, .c x), (3, .c (.p H.length 0 0)), (5, .c (.p (H.length + 1) 0 0)), (6, .c (.b (wantK (L.take k) e0 ep el pt))), (7, .c (.b (anyK (L.take k)))), (8, .c (.i k))],
    H ++ [.own [.i e0, .u ep, .i el, .u pt], .own (mlC 3 (setR Z8 0 2 (slotK (L.take k) rq0)))])) ?_ fun k hk => ?_
  · refine Wk.wk (by simp [lo]) (by simp [Am.get, anyK, wantK]) (by simp [AV.bel, Sc.bel]; exact Sc.bel_mono bx (by omega)) (subH_refl _) (bel_app2 hH rfl (mlC_bel _ _ _))
  · have bk : ∀ k, belH (H ++ [.own [.i e0, .u ep, .i el, .u pt], .own (mlC 3 (setR Z8 0 2 (slotK (L.take k) rq0)))]) = true := fun k => bel_app2 hH rfl (mlC_bel _ _ _)
    by_cases hlt : k < L.length
    · rcases slD_inv dcR_d h1 with ⟨rfl, rfl⟩ | ⟨id, v, rfl, hv, hcs⟩
      · simp at hlt
      have lid : id < H.length := by simpa [Sc.bel] using bx
      obtain ⟨q, hq⟩ : ∃ q, L[k]? = some q := ⟨_, List.getElem?_eq_getElem hlt⟩
      have e1 : w64 ((k : Int) + 1) = ((k + 1 : Nat) : Int) := by rw [w64_of (by omega)]; omega
      have gx : ∀ X, hg (H ++ X) id = hg H id := fun X => hg_lt' lid
      have g1 := fm_le encR_l (L := L) (k := k) hlt
      have g3 := fm_get encR_l hq
      rw [← hcs] at g1 g3
      have hv := hv.symm
      have ta : anyK (L.take (k + 1)) = (anyK (L.take k) || okQ q) := by unfold anyK; rw [List.take_add_one, hq, List.any_append]; simp
      have tw : wantK (L.take (k + 1)) e0 ep el pt = (wantK (L.take k) e0 ep el pt || (okQ q && fgB q e0 ep el pt)) := by unfold wantK; rw [List.take_add_one, hq, List.any_append]; simp
      have ts : slotK (L.take (k + 1)) rq0 = if okQ q = true then mergeR (slotK (L.take k) rq0) q else slotK (L.take k) rq0 := by rw [List.take_add_one, hq, Option.toList_some, slotK_app]; rfl
      have mq := may_post q
      have pb := post_B (slotK (L.take k) rq0) q
      have pl := doA_len 3 (setR Z8 0 2 (slotK (L.take k) rq0)) 2 13 0 q
      have po := doA_one 3 (setR Z8 0 2 (slotK (L.take k) rq0)) 2 13 0 q
      obtain ⟨qs, qv, qd, qa, qi⟩ := q
      have kd : ∀ X, s_mdo [.c (.p (H.length + 1) 0 0), .c (.i 2), .g [.i 13, .u 0#64, .u 0#64, .i 0, .i 0, .i 0, .u 0#64, .u 0#64, .b false, .i 0, .b qs, .b qv, .b qd, .u qa, .i qi, .i 0, .u 0#64, .i 0, .u 0#64]] (H ++ .own [.i e0, .u ep, .i el, .u pt] :: .own (mlC 3 (setR Z8 0 2 (slotK (L.take k) rq0))) :: X) =
          some (.t [.g (doA 3 (setR Z8 0 2 (slotK (L.take k) rq0)) 2 13 0 ⟨qs, qv, qd, qa, qi⟩), .c (.b (okQ ⟨qs, qv, qd, qa, qi⟩))], H ++ .own [.i e0, .u ep, .i el, .u pt] :: .own (mlC 3 (setR Z8 0 2 (slotK (L.take (k + 1)) rq0))) :: X) := by
        intro X
        rw [s_mdo_eq (n := 3) (B := setR Z8 0 2 (slotK (L.take k) rq0)) (by rw [hg_len_add]; rfl) rfl (by decide), pb, ts, set_len_add]
        simp only [List.set_cons_succ, List.set_cons_zero]
        rw [show mlMay 3 2 13 0 qs qi = okQ ⟨qs, qv, qd, qa, qi⟩ from mq]
      have es : encR ⟨qs, qv, qd, qa, qi⟩ = [.b qs, .b qv, .b qd, .u qa, .i qi] := rfl
      rw [es] at g3
      generalize hpa : doA 3 (setR Z8 0 2 (slotK (L.take k) rq0)) 2 13 0 ⟨qs, qv, qd, qa, qi⟩ = pa at kd pl po
      cases hok : okQ ⟨qs, qv, qd, qa, qi⟩
      · rw [hok] at kd ta tw
        simp only [Bool.or_false, Bool.false_and] at ta tw
        (try simp (config := { maxSteps := 10000000 }) only [go_sem, List.reduceReplicate, BitVec.reduceOfInt, BitVec.reduceToNat, BitVec.reduceToInt, BitVec.reduceEq, BitVec.reduceLT, BitVec.reduceLE, BitVec.reduceAdd, BitVec.reduceSub, BitVec.reduceMul, BitVec.reduceUDiv, BitVec.reduceUMod, BitVec.reduceAnd, BitVec.reduceOr, BitVec.reduceXOr, BitVec.reduceNot, BitVec.reduceNeg, BitVec.reduceHShiftLeft, BitVec.reduceHShiftRight, Nat.reduceAdd, Nat.reduceMul, Nat.reduceSub, Nat.reduceBEq, Nat.reduceEqDiff, Nat.reduceLeDiff, Nat.reduceLT, Int.reduceLE, Int.reduceLT, Int.reduceAdd, Int.reduceSub, Int.reduceMul, Int.reduceNeg, Int.reduceToNat, Int.reduceEq, ↓reduceIte, reduceCtorEq, xl, gx, g1, g3, hv, e1, kd, pl, po]; repeat (simp (disch := omega) only [w64_d, ipos, ineg, dpos, dneg]; try simp (config := { maxSteps := 10000000 }) only [go_sem, List.reduceReplicate, BitVec.reduceOfInt, BitVec.reduceToNat, BitVec.reduceToInt, BitVec.reduceEq, BitVec.reduceLT, BitVec.reduceLE, BitVec.reduceAdd, BitVec.reduceSub, BitVec.reduceMul, BitVec.reduceUDiv, BitVec.reduceUMod, BitVec.reduceAnd, BitVec.reduceOr, BitVec.reduceXOr, BitVec.reduceNot, BitVec.reduceNeg, BitVec.reduceHShiftLeft, BitVec.reduceHShiftRight, Nat.reduceAdd, Nat.reduceMul, Nat.reduceSub, Nat.reduceBEq, Nat.reduceEqDiff, Nat.reduceLeDiff, Nat.reduceLT, Int.reduceLE, Int.reduceLT, Int.reduceAdd, Int.reduceSub, Int.reduceMul, Int.reduceNeg, Int.reduceToNat, Int.reduceEq, ↓reduceIte, reduceCtorEq, xl, gx, g1, g3, hv, e1, kd, pl, po]))
        exact ⟨k + 1, by omega, by omega, Wk.wk (by simp [lo]) (by simp [Am.get, ta, tw]) (by simp [AV.bel, Sc.bel]; omega) subH_3 (bk (k + 1))⟩
      · rw [hok] at kd ta tw
        simp only [Bool.or_true, Bool.true_and] at ta tw
        cases hw : wantK (L.take k) e0 ep el pt
        all_goals rw [hw] at tw
        all_goals simp only [Bool.true_or, Bool.false_or] at tw
        · (try simp (config := { maxSteps := 10000000 }) only [go_sem, List.reduceReplicate, BitVec.reduceOfInt, BitVec.reduceToNat, BitVec.reduceToInt, BitVec.reduceEq, BitVec.reduceLT, BitVec.reduceLE, BitVec.reduceAdd, BitVec.reduceSub, BitVec.reduceMul, BitVec.reduceUDiv, BitVec.reduceUMod, BitVec.reduceAnd, BitVec.reduceOr, BitVec.reduceXOr, BitVec.reduceNot, BitVec.reduceNeg, BitVec.reduceHShiftLeft, BitVec.reduceHShiftRight, Nat.reduceAdd, Nat.reduceMul, Nat.reduceSub, Nat.reduceBEq, Nat.reduceEqDiff, Nat.reduceLeDiff, Nat.reduceLT, Int.reduceLE, Int.reduceLT, Int.reduceAdd, Int.reduceSub, Int.reduceMul, Int.reduceNeg, Int.reduceToNat, Int.reduceEq, ↓reduceIte, reduceCtorEq, xl, gx, g1, g3, hv, e1, kd, pl, po, hw, s_forgets_eq]; repeat (simp (disch := omega) only [w64_d, ipos, ineg, dpos, dneg]; try simp (config := { maxSteps := 10000000 }) only [go_sem, List.reduceReplicate, BitVec.reduceOfInt, BitVec.reduceToNat, BitVec.reduceToInt, BitVec.reduceEq, BitVec.reduceLT, BitVec.reduceLE, BitVec.reduceAdd, BitVec.reduceSub, BitVec.reduceMul, BitVec.reduceUDiv, BitVec.reduceUMod, BitVec.reduceAnd, BitVec.reduceOr, BitVec.reduceXOr, BitVec.reduceNot, BitVec.reduceNeg, BitVec.reduceHShiftLeft, BitVec.reduceHShiftRight, Nat.reduceAdd, Nat.reduceMul, Nat.reduceSub, Nat.reduceBEq, Nat.reduceEqDiff, Nat.reduceLeDiff, Nat.reduceLT, Int.reduceLE, Int.reduceLT, Int.reduceAdd, Int.reduceSub, Int.reduceMul, Int.reduceNeg, Int.reduceToNat, Int.reduceEq, ↓reduceIte, reduceCtorEq, xl, gx, g1, g3, hv, e1, kd, pl, po, hw, s_forgets_eq]))
          exact ⟨k + 1, by omega, by omega, Wk.wk (by simp [lo]) (by simp [Am.get, ta, tw]) (by simp [AV.bel, Sc.bel]; omega) subH_3 (bk (k + 1))⟩
        · (try simp (config := { maxSteps := 10000000 }) only [go_sem, List.reduceReplicate, BitVec.reduceOfInt, BitVec.reduceToNat, BitVec.reduceToInt, BitVec.reduceEq, BitVec.reduceLT, BitVec.reduceLE, BitVec.reduceAdd, BitVec.reduceSub, BitVec.reduceMul, BitVec.reduceUDiv, BitVec.reduceUMod, BitVec.reduceAnd, BitVec.reduceOr, BitVec.reduceXOr, BitVec.reduceNot, BitVec.reduceNeg, BitVec.reduceHShiftLeft, BitVec.reduceHShiftRight, Nat.reduceAdd, Nat.reduceMul, Nat.reduceSub, Nat.reduceBEq, Nat.reduceEqDiff, Nat.reduceLeDiff, Nat.reduceLT, Int.reduceLE, Int.reduceLT, Int.reduceAdd, Int.reduceSub, Int.reduceMul, Int.reduceNeg, Int.reduceToNat, Int.reduceEq, ↓reduceIte, reduceCtorEq, xl, gx, g1, g3, hv, e1, kd, pl, po, hw, s_forgets_eq]; repeat (simp (disch := omega) only [w64_d, ipos, ineg, dpos, dneg]; try simp (config := { maxSteps := 10000000 }) only [go_sem, List.reduceReplicate, BitVec.reduceOfInt, BitVec.reduceToNat, BitVec.reduceToInt, BitVec.reduceEq, BitVec.reduceLT, BitVec.reduceLE, BitVec.reduceAdd, BitVec.reduceSub, BitVec.reduceMul, BitVec.reduceUDiv, BitVec.reduceUMod, BitVec.reduceAnd, BitVec.reduceOr, BitVec.reduceXOr, BitVec.reduceNot, BitVec.reduceNeg, BitVec.reduceHShiftLeft, BitVec.reduceHShiftRight, Nat.reduceAdd, Nat.reduceMul, Nat.reduceSub, Nat.reduceBEq, Nat.reduceEqDiff, Nat.reduceLeDiff, Nat.reduceLT, Int.reduceLE, Int.reduceLT, Int.reduceAdd, Int.reduceSub, Int.reduceMul, Int.reduceNeg, Int.reduceToNat, Int.reduceEq, ↓reduceIte, reduceCtorEq, xl, gx, g1, g3, hv, e1, kd, pl, po, hw, s_forgets_eq]))
          exact ⟨k + 1, by omega, by omega, Wk.wk (by simp [lo]) (by simp [Am.get, ta, tw]) (by simp [AV.bel, Sc.bel]; omega) subH_3 (bk (k + 1))⟩
    · obtain rfl : k = L.length := by omega
      rw [List.take_length]
      obtain ⟨v1, v2, v3⟩ := keep_inv L e0 ep el pt
      generalize slotK L rq0 = r at v1 v2 v3
      have k1 : ∀ X, s_mdo [.c (.p (H.length + 1) 0 0), .c (.i 2), .g [.i 14, .u 0#64, .u 0#64, .i 0, .i 0, .i 0, .u 0#64, .u 0#64, .b false, .i 0, .b false, .b false, .b false, .u 0#64, .i 0, .i 0, .u 0#64, .i 0, .u 0#64]] (H ++ .own [.i e0, .u ep, .i el, .u pt] :: .own (mlC 3 (setR Z8 0 2 r)) :: X) =
          some (.t [.g (ansC 0#64 (eqR r rq0) row0), .c (.b true)], H ++ .own [.i e0, .u ep, .i el, .u pt] :: .own (mlC 3 (setR Z8 0 2 r)) :: X) := by
        intro X
        rw [s_mdo_eq (n := 3) (B := setR Z8 0 2 r) (by rw [hg_len_add]; rfl) rfl (by decide), set_len_add]
        simp only [List.set_cons_succ, List.set_cons_zero]
        rw [show (⟨false, false, false, 0#64, 0⟩ : Rq) = rq0 from rfl, check_A, check_B, mays.1]
      have k2 : ∀ X, s_mdo [.c (.p (H.length + 1) 0 0), .c (.i 0), .g [.i 12, .u 0#64, .u 0#64, .i 0, .i 0, .i 0, .u 0#64, .u 0#64, .b false, .i 0, .b false, .b false, .b false, .u 0#64, .i 0, .i 0, .u 0#64, .i 0, .u 0#64]] (H ++ .own [.i e0, .u ep, .i el, .u pt] :: .own (mlC 3 (setR Z8 0 2 r)) :: X) =
          some (.t [.g (ansC 0#64 false ⟨[rq0, rq0, r, rq0, rq0, rq0, rq0, rq0], rfl⟩), .c (.b true)], H ++ .own [.i e0, .u ep, .i el, .u pt] :: .own (mlC 3 Z8) :: X) := by
        intro X
        rw [s_mdo_eq (n := 3) (B := setR Z8 0 2 r) (by rw [hg_len_add]; rfl) rfl (by decide), set_len_add]
        simp only [List.set_cons_succ, List.set_cons_zero]
        rw [show (⟨false, false, false, 0#64, 0⟩ : Rq) = rq0 from rfl, drain_A, drain_B, mays.2]
      have k3 : ∀ X, s_mdo [.c (.p (H.length + 1) 0 0), .c (.i 2), .g [.i 14, .u 0#64, .u 0#64, .i 0, .i 0, .i 0, .u 0#64, .u 0#64, .b false, .i 0, .b false, .b false, .b false, .u 0#64, .i 0, .i 0, .u 0#64, .i 0, .u 0#64]] (H ++ .own [.i e0, .u ep, .i el, .u pt] :: .own (mlC 3 Z8) :: X) =
          some (.t [.g (ansC 0#64 true row0), .c (.b true)], H ++ .own [.i e0, .u ep, .i el, .u pt] :: .own (mlC 3 Z8) :: X) := by
        intro X
        rw [s_mdo_eq (n := 3) (B := Z8) (by rw [hg_len_add]; rfl) rfl (by decide), set_len_add]
        simp only [List.set_cons_succ, List.set_cons_zero]
        rw [show (⟨false, false, false, 0#64, 0⟩ : Rq) = rq0 from rfl, check2_A, check2_B, mays.1]
      obtain ⟨qs, qv, qd, qa, qi⟩ := r
      have rr : rowC ⟨[rq0, rq0, ⟨qs, qv, qd, qa, qi⟩, rq0, rq0, rq0, rq0, rq0], rfl⟩ = [.b false, .b false, .b false, .u 0#64, .i 0, .b false, .b false, .b false, .u 0#64, .i 0, .b qs, .b qv, .b qd, .u qa, .i qi, .b false, .b false, .b false, .u 0#64, .i 0, .b false, .b false, .b false, .u 0#64, .i 0, .b false, .b false, .b false, .u 0#64, .i 0, .b false, .b false, .b false, .u 0#64, .i 0, .b false, .b false, .b false, .u 0#64, .i 0] := rfl
      simp only [ansC, rr, rowC_0] at k1 k2 k3
      cases ha : anyK L
      · have e0' := v2 ha
        simp only [rq0, Rq.mk.injEq] at e0'
        obtain ⟨rfl, rfl, rfl, rfl, rfl⟩ := e0'
        have hq : eqR ⟨false, false, false, 0#64, 0⟩ rq0 = true := rfl
        have hw : wantK L e0 ep el pt = false := by
          cases hw : wantK L e0 ep el pt
          · rfl
          · have := v3 hw; simp [fgB] at this
        (try simp (config := { maxSteps := 10000000 }) only [go_sem, List.reduceReplicate, BitVec.reduceOfInt, BitVec.reduceToNat, BitVec.reduceToInt, BitVec.reduceEq, BitVec.reduceLT, BitVec.reduceLE, BitVec.reduceAdd, BitVec.reduceSub, BitVec.reduceMul, BitVec.reduceUDiv, BitVec.reduceUMod, BitVec.reduceAnd, BitVec.reduceOr, BitVec.reduceXOr, BitVec.reduceNot, BitVec.reduceNeg, BitVec.reduceHShiftLeft, BitVec.reduceHShiftRight, Nat.reduceAdd, Nat.reduceMul, Nat.reduceSub, Nat.reduceBEq, Nat.reduceEqDiff, Nat.reduceLeDiff, Nat.reduceLT, Int.reduceLE, Int.reduceLT, Int.reduceAdd, Int.reduceSub, Int.reduceMul, Int.reduceNeg, Int.reduceToNat, Int.reduceEq, ↓reduceIte, reduceCtorEq, s_live29_eq, xl, k1, k2, k3, ha, hw, hq]; repeat (simp (disch := omega) only [w64_d, ipos, ineg, dpos, dneg]; try simp (config := { maxSteps := 10000000 }) only [go_sem, List.reduceReplicate, BitVec.reduceOfInt, BitVec.reduceToNat, BitVec.reduceToInt, BitVec.reduceEq, BitVec.reduceLT, BitVec.reduceLE, BitVec.reduceAdd, BitVec.reduceSub, BitVec.reduceMul, BitVec.reduceUDiv, BitVec.reduceUMod, BitVec.reduceAnd, BitVec.reduceOr, BitVec.reduceXOr, BitVec.reduceNot, BitVec.reduceNeg, BitVec.reduceHShiftLeft, BitVec.reduceHShiftRight, Nat.reduceAdd, Nat.reduceMul, Nat.reduceSub, Nat.reduceBEq, Nat.reduceEqDiff, Nat.reduceLeDiff, Nat.reduceLT, Int.reduceLE, Int.reduceLT, Int.reduceAdd, Int.reduceSub, Int.reduceMul, Int.reduceNeg, Int.reduceToNat, Int.reduceEq, ↓reduceIte, reduceCtorEq, s_live29_eq, xl, k1, k2, k3, ha, hw, hq]))
        exact subH_app _ _
      · rw [ha] at v1
        simp only at v1
        subst v1
        have hq : eqR ⟨true, qv, qd, qa, qi⟩ rq0 = false := rfl
        cases hw : wantK L e0 ep el pt
        · (try simp (config := { maxSteps := 10000000 }) only [go_sem, List.reduceReplicate, BitVec.reduceOfInt, BitVec.reduceToNat, BitVec.reduceToInt, BitVec.reduceEq, BitVec.reduceLT, BitVec.reduceLE, BitVec.reduceAdd, BitVec.reduceSub, BitVec.reduceMul, BitVec.reduceUDiv, BitVec.reduceUMod, BitVec.reduceAnd, BitVec.reduceOr, BitVec.reduceXOr, BitVec.reduceNot, BitVec.reduceNeg, BitVec.reduceHShiftLeft, BitVec.reduceHShiftRight, Nat.reduceAdd, Nat.reduceMul, Nat.reduceSub, Nat.reduceBEq, Nat.reduceEqDiff, Nat.reduceLeDiff, Nat.reduceLT, Int.reduceLE, Int.reduceLT, Int.reduceAdd, Int.reduceSub, Int.reduceMul, Int.reduceNeg, Int.reduceToNat, Int.reduceEq, ↓reduceIte, reduceCtorEq, s_live29_eq, xl, k1, k2, k3, ha, hw, hq]; repeat (simp (disch := omega) only [w64_d, ipos, ineg, dpos, dneg]; try simp (config := { maxSteps := 10000000 }) only [go_sem, List.reduceReplicate, BitVec.reduceOfInt, BitVec.reduceToNat, BitVec.reduceToInt, BitVec.reduceEq, BitVec.reduceLT, BitVec.reduceLE, BitVec.reduceAdd, BitVec.reduceSub, BitVec.reduceMul, BitVec.reduceUDiv, BitVec.reduceUMod, BitVec.reduceAnd, BitVec.reduceOr, BitVec.reduceXOr, BitVec.reduceNot, BitVec.reduceNeg, BitVec.reduceHShiftLeft, BitVec.reduceHShiftRight, Nat.reduceAdd, Nat.reduceMul, Nat.reduceSub, Nat.reduceBEq, Nat.reduceEqDiff, Nat.reduceLeDiff, Nat.reduceLT, Int.reduceLE, Int.reduceLT, Int.reduceAdd, Int.reduceSub, Int.reduceMul, Int.reduceNeg, Int.reduceToNat, Int.reduceEq, ↓reduceIte, reduceCtorEq, s_live29_eq, xl, k1, k2, k3, ha, hw, hq]))
          exact subH_app _ _
        · have hf := v3 hw
          (try simp (config := { maxSteps := 10000000 }) only [go_sem, List.reduceReplicate, BitVec.reduceOfInt, BitVec.reduceToNat, BitVec.reduceToInt, BitVec.reduceEq, BitVec.reduceLT, BitVec.reduceLE, BitVec.reduceAdd, BitVec.reduceSub, BitVec.reduceMul, BitVec.reduceUDiv, BitVec.reduceUMod, BitVec.reduceAnd, BitVec.reduceOr, BitVec.reduceXOr, BitVec.reduceNot, BitVec.reduceNeg, BitVec.reduceHShiftLeft, BitVec.reduceHShiftRight, Nat.reduceAdd, Nat.reduceMul, Nat.reduceSub, Nat.reduceBEq, Nat.reduceEqDiff, Nat.reduceLeDiff, Nat.reduceLT, Int.reduceLE, Int.reduceLT, Int.reduceAdd, Int.reduceSub, Int.reduceMul, Int.reduceNeg, Int.reduceToNat, Int.reduceEq, ↓reduceIte, reduceCtorEq, s_live29_eq, xl, k1, k2, k3, ha, hw, hq, s_forgets_eq, hf]; repeat (simp (disch := omega) only [w64_d, ipos, ineg, dpos, dneg]; try simp (config := { maxSteps := 10000000 }) only [go_sem, List.reduceReplicate, BitVec.reduceOfInt, BitVec.reduceToNat, BitVec.reduceToInt, BitVec.reduceEq, BitVec.reduceLT, BitVec.reduceLE, BitVec.reduceAdd, BitVec.reduceSub, BitVec.reduceMul, BitVec.reduceUDiv, BitVec.reduceUMod, BitVec.reduceAnd, BitVec.reduceOr, BitVec.reduceXOr, BitVec.reduceNot, BitVec.reduceNeg, BitVec.reduceHShiftLeft, BitVec.reduceHShiftRight, Nat.reduceAdd, Nat.reduceMul, Nat.reduceSub, Nat.reduceBEq, Nat.reduceEqDiff, Nat.reduceLeDiff, Nat.reduceLT, Int.reduceLE, Int.reduceLT, Int.reduceAdd, Int.reduceSub, Int.reduceMul, Int.reduceNeg, Int.reduceToNat, Int.reduceEq, ↓reduceIte, reduceCtorEq, s_live29_eq, xl, k1, k2, k3, ha, hw, hq, s_forgets_eq, hf]))
          exact subH_app _ _

theorem sig_mkeeps (avs : List AV) (H : AH) (h : SigA [.sl [.q, .q, .q, .n .u64, .n .i64], .fl true [.n .i64, .n .u64, .n .i64, .n .u64]] avs H) : s_mkeeps avs H = some (.c (.b true)) := by
  obtain ⟨x, r1, rfl, h2, l, hl, hp, hn⟩ := sig_row (f := encR) (w := 5) (dc := dcR) (p := fun _ => True) (fun cs hcs => by
    obtain ⟨a, _, rfl, ka, g⟩ := fit_cons hcs
    obtain ⟨b, _, rfl, kb, g⟩ := fit_cons g
    obtain ⟨c, _, rfl, kc, g⟩ := fit_cons g
    obtain ⟨d, _, rfl, kd, g⟩ := fit_cons g
    obtain ⟨e, _, rfl, ke, g⟩ := fit_cons g
    obtain rfl := fit_nil g
    obtain ⟨a, rfl⟩ := fk_q ka
    obtain ⟨b, rfl⟩ := fk_q kb
    obtain ⟨c, rfl⟩ := fk_q kc
    obtain ⟨d, rfl⟩ := fk_u kd
    obtain ⟨e, rfl, _⟩ := fk_i ke
    exact ⟨⟨a, b, c, d, e⟩, rfl, trivial⟩) encR_l dcR_e h
  obtain ⟨g, r2, rfl, k0, h3⟩ := sig_g h2
  obtain ⟨a, _, rfl, ka, g⟩ := fit_cons k0
  obtain ⟨b, _, rfl, kb, g⟩ := fit_cons g
  obtain ⟨c, _, rfl, kc, g⟩ := fit_cons g
  obtain ⟨d, _, rfl, kd, g⟩ := fit_cons g
  obtain rfl := fit_nil g
  obtain ⟨a, rfl, _⟩ := fk_i ka
  obtain ⟨b, rfl⟩ := fk_u kb
  obtain ⟨c, rfl, _⟩ := fk_i kc
  obtain ⟨d, rfl⟩ := fk_u kd
  obtain rfl := sig_nil h3
  simp only [s_mkeeps, hl]
  rw [if_pos hn]

end
end Go.Proofs.Ythjhkckndnhjpaa
