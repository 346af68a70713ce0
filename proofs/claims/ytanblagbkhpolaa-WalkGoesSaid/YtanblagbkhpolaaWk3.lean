/- Layer 27: the document's walk, gone through from the begin: plain laws; small contracts. -/
import Derived.Test.YtanblagbkhpolaaWk2
import Derived.Test.YtanblagbkhpolaaArr
namespace Go.Proofs.Ytanblagbkhpolaa
open Go.Am
set_option linter.unusedSimpArgs false
set_option linter.unusedVariables false
noncomputable section

def e0C : List Sc := entC 0#64 0 0#64
abbrev AskR := Int × BitVec 64 × BitVec 64 × BitVec 64
def encK (a : AskR) : List Sc := askC a.1 a.2.1 8 a.2.2.1 a.2.2.2
theorem encK_l (a : AskR) : (encK a).length = 19 := rfl
/-- how a walk goes behind answers: all that it asks, its end, its entry, how often it began anew -/
def runR (s : Wst) : List (BitVec 64 × Bool) → Int → BitVec 64 → List AskR → Int → List AskR × Int × List Sc × Int
  | [], lev, ppn, A, ag => if hasW s.ln (ventryU ppn s.va lev) = true then (A ++ [(7, ventryU ppn s.va lev, 0#64, 0#64)], 0, e0C, ag) else (A, 3, e0C, ag)
  | [(d, _)], lev, ppn, A, ag =>
    if hasW s.ln (ventryU ppn s.va lev) = true then
      if kindU d lev = 1 then runR s [] (w64 (lev - 1)) (cutU d 10 44) (A ++ [(7, ventryU ppn s.va lev, 0#64, 0#64)]) ag else
      if kindU d lev = 0 then (A ++ [(7, ventryU ppn s.va lev, 0#64, 0#64)], 2, e0C, ag) else
      if letsB d s.ac s.pr s.su s.mx = false then (A ++ [(7, ventryU ppn s.va lev, 0#64, 0#64)], 2, e0C, ag) else
      if markU d s.ac = d then (A ++ [(7, ventryU ppn s.va lev, 0#64, 0#64)], 1, entC (vpageU s.va lev) lev d, ag) else
      (A ++ [(7, ventryU ppn s.va lev, 0#64, 0#64)] ++ [(8, ventryU ppn s.va lev, markU d s.ac, d)], 0, e0C, ag)
    else (A, 3, e0C, ag)
  | (d, _) :: (d2, g2) :: r2, lev, ppn, A, ag =>
    if hasW s.ln (ventryU ppn s.va lev) = true then
      if kindU d lev = 1 then runR s ((d2, g2) :: r2) (w64 (lev - 1)) (cutU d 10 44) (A ++ [(7, ventryU ppn s.va lev, 0#64, 0#64)]) ag else
      if kindU d lev = 0 then (A ++ [(7, ventryU ppn s.va lev, 0#64, 0#64)], 2, e0C, ag) else
      if letsB d s.ac s.pr s.su s.mx = false then (A ++ [(7, ventryU ppn s.va lev, 0#64, 0#64)], 2, e0C, ag) else
      if markU d s.ac = d then (A ++ [(7, ventryU ppn s.va lev, 0#64, 0#64)], 1, entC (vpageU s.va lev) lev d, ag) else
      if g2 = true then (A ++ [(7, ventryU ppn s.va lev, 0#64, 0#64)] ++ [(8, ventryU ppn s.va lev, markU d s.ac, d)], 1, entC (vpageU s.va lev) lev (markU d s.ac), ag) else
      runR s r2 2 s.ro (A ++ [(7, ventryU ppn s.va lev, 0#64, 0#64)] ++ [(8, ventryU ppn s.va lev, markU d s.ac, d)]) (w64 (ag + 1))
    else (A, 3, e0C, ag)
def tellL (t : Wst) (l : List (BitVec 64 × Bool)) : Wst := l.foldl (fun t x => tellW t x.1 x.2) t
theorem tell_ended {t : Wst} (h : endedW t = true) : ∀ l, tellL t l = t
  | [] => rfl
  | x :: r => by
    unfold tellL
    rw [List.foldl_cons]
    have : tellW t x.1 x.2 = t := by unfold tellW; rw [if_pos h]
    rw [this]
    exact tell_ended h r
/-- what the document's answer is of a walk that stands so -/
def okR (t : Wst) (R : List AskR × Int × List Sc × Int) : Prop := R.2.1 = t.en ∧ R.2.2.1 = endE t ∧ R.2.2.2 = t.ag ∧ (t.en = 0 → ∃ B x, R.1 = B ++ [x] ∧ encK x = askW t)
def atS (s : Wst) (ag : Int) : Wst := { s with made := true, en := 0, ag := ag }
theorem run_ok (s : Wst) : ∀ (n : Nat) (l : List (BitVec 64 × Bool)), l.length ≤ n → ∀ lev ppn A ag, okR (tellL (lookW (atS s ag) ppn lev) l) (runR s l lev ppn A ag) := by
  intro n
  induction n using Nat.strongRecOn with
  | _ n ih =>
    intro l hl lev ppn A ag
    have miss : hasW s.ln (ventryU ppn s.va lev) = false → okR (lookW (atS s ag) ppn lev) (A, 3, e0C, ag) ∧ endedW (lookW (atS s ag) ppn lev) = true := by
      intro h
      have : (lookW (atS s ag) ppn lev).en = 3 := by simp [lookW, atS, h]
      refine ⟨⟨this.symm, ?_, rfl, fun h' => by rw [this] at h'; omega⟩, ?_⟩
      · unfold endE; rw [this]; rfl
      · simp [endedW, this]
    cases hh : hasW s.ln (ventryU ppn s.va lev)
    · obtain ⟨m1, m2⟩ := miss hh
      rw [tell_ended m2]
      match l with
      | [] => unfold runR; rw [hh]; exact m1
      | [x] => unfold runR; rw [hh]; exact m1
      | x :: y :: r => unfold runR; rw [hh]; exact m1
    have et : lookW (atS s ag) ppn lev = ⟨true, s.ln, s.ro, s.va, s.ac, s.pr, s.su, s.mx, 0, lev, ventryU ppn s.va lev, 0#64, false, ag⟩ := by simp [lookW, atS, hh]
    have ne : endedW (lookW (atS s ag) ppn lev) = false := by rw [et]; rfl
    match l, hl with
    | [], _ =>
      unfold runR
      rw [if_pos hh]
      show okR (lookW (atS s ag) ppn lev) _
      rw [et]
      exact ⟨rfl, rfl, rfl, fun _ => ⟨A, _, rfl, rfl⟩⟩
    | [(d, g)], hl =>
      show okR (tellW (lookW (atS s ag) ppn lev) d g) _
      unfold runR
      rw [if_pos hh, et]
      by_cases k1 : kindU d lev = 1
      · have a1 : tellW ⟨true, s.ln, s.ro, s.va, s.ac, s.pr, s.su, s.mx, 0, lev, ventryU ppn s.va lev, 0#64, false, ag⟩ d g = lookW ⟨true, s.ln, s.ro, s.va, s.ac, s.pr, s.su, s.mx, 0, lev, ventryU ppn s.va lev, d, false, ag⟩ (cutU d 10 44) (w64 (lev - 1)) := by simp [tellW, endedW, k1]
        rw [a1]
        simp only [if_pos k1]
        exact ih 0 (by simp at hl; omega) [] (Nat.le_refl _) (w64 (lev - 1)) (cutU d 10 44) (A ++ [(7, ventryU ppn s.va lev, 0#64, 0#64)]) ag
      by_cases k0 : kindU d lev = 0
      · have a1 : tellW ⟨true, s.ln, s.ro, s.va, s.ac, s.pr, s.su, s.mx, 0, lev, ventryU ppn s.va lev, 0#64, false, ag⟩ d g = ⟨true, s.ln, s.ro, s.va, s.ac, s.pr, s.su, s.mx, 2, lev, ventryU ppn s.va lev, d, false, ag⟩ := by simp [tellW, endedW, k0]
        rw [a1]
        simp only [if_neg k1, if_pos k0]
        exact ⟨rfl, rfl, rfl, fun h => absurd h (by simp)⟩
      cases hl' : letsB d s.ac s.pr s.su s.mx
      · have a1 : tellW ⟨true, s.ln, s.ro, s.va, s.ac, s.pr, s.su, s.mx, 0, lev, ventryU ppn s.va lev, 0#64, false, ag⟩ d g = ⟨true, s.ln, s.ro, s.va, s.ac, s.pr, s.su, s.mx, 2, lev, ventryU ppn s.va lev, d, false, ag⟩ := by simp [tellW, endedW, k0, k1, hl']
        rw [a1]
        simp only [if_neg k1, if_neg k0, if_true]
        exact ⟨rfl, rfl, rfl, fun h => absurd h (by simp)⟩
      by_cases hm : markU d s.ac = d
      · have a1 : tellW ⟨true, s.ln, s.ro, s.va, s.ac, s.pr, s.su, s.mx, 0, lev, ventryU ppn s.va lev, 0#64, false, ag⟩ d g = ⟨true, s.ln, s.ro, s.va, s.ac, s.pr, s.su, s.mx, 1, lev, ventryU ppn s.va lev, d, false, ag⟩ := by simp [tellW, endedW, k0, k1, hl', hm]
        rw [a1]
        simp only [if_neg k1, if_neg k0, if_pos hm, Bool.true_eq_false, if_false]
        exact ⟨rfl, rfl, rfl, fun h => absurd h (by simp)⟩
      · have a1 : tellW ⟨true, s.ln, s.ro, s.va, s.ac, s.pr, s.su, s.mx, 0, lev, ventryU ppn s.va lev, 0#64, false, ag⟩ d g = ⟨true, s.ln, s.ro, s.va, s.ac, s.pr, s.su, s.mx, 0, lev, ventryU ppn s.va lev, d, true, ag⟩ := by simp [tellW, endedW, k0, k1, hl', hm]
        rw [a1]
        simp only [if_neg k1, if_neg k0, if_neg hm, Bool.true_eq_false, if_false]
        exact ⟨rfl, rfl, rfl, fun _ => ⟨_, _, rfl, rfl⟩⟩
    | (d, g) :: (d2, g2) :: r2, hl =>
      have e1 : tellL (lookW (atS s ag) ppn lev) ((d, g) :: (d2, g2) :: r2) = tellL (tellW (lookW (atS s ag) ppn lev) d g) ((d2, g2) :: r2) := rfl
      rw [e1, et]
      unfold runR
      rw [if_pos hh]
      have hl2 : r2.length + 2 ≤ n := by simpa using hl
      by_cases k1 : kindU d lev = 1
      · have a1 : tellW ⟨true, s.ln, s.ro, s.va, s.ac, s.pr, s.su, s.mx, 0, lev, ventryU ppn s.va lev, 0#64, false, ag⟩ d g = lookW ⟨true, s.ln, s.ro, s.va, s.ac, s.pr, s.su, s.mx, 0, lev, ventryU ppn s.va lev, d, false, ag⟩ (cutU d 10 44) (w64 (lev - 1)) := by simp [tellW, endedW, k1]
        rw [a1]
        simp only [if_pos k1]
        exact ih (n - 1) (by omega) ((d2, g2) :: r2) (by simp; omega) (w64 (lev - 1)) (cutU d 10 44) (A ++ [(7, ventryU ppn s.va lev, 0#64, 0#64)]) ag
      by_cases k0 : kindU d lev = 0
      · have a1 : tellW ⟨true, s.ln, s.ro, s.va, s.ac, s.pr, s.su, s.mx, 0, lev, ventryU ppn s.va lev, 0#64, false, ag⟩ d g = ⟨true, s.ln, s.ro, s.va, s.ac, s.pr, s.su, s.mx, 2, lev, ventryU ppn s.va lev, d, false, ag⟩ := by simp [tellW, endedW, k0]
        rw [a1, tell_ended (by rfl)]
        simp only [if_neg k1, if_pos k0]
        exact ⟨rfl, rfl, rfl, fun h => absurd h (by simp)⟩
      cases hl' : letsB d s.ac s.pr s.su s.mx
      · have a1 : tellW ⟨true, s.ln, s.ro, s.va, s.ac, s.pr, s.su, s.mx, 0, lev, ventryU ppn s.va lev, 0#64, false, ag⟩ d g = ⟨true, s.ln, s.ro, s.va, s.ac, s.pr, s.su, s.mx, 2, lev, ventryU ppn s.va lev, d, false, ag⟩ := by simp [tellW, endedW, k0, k1, hl']
        rw [a1, tell_ended (by rfl)]
        simp only [if_neg k1, if_neg k0, if_true]
        exact ⟨rfl, rfl, rfl, fun h => absurd h (by simp)⟩
      by_cases hm : markU d s.ac = d
      · have a1 : tellW ⟨true, s.ln, s.ro, s.va, s.ac, s.pr, s.su, s.mx, 0, lev, ventryU ppn s.va lev, 0#64, false, ag⟩ d g = ⟨true, s.ln, s.ro, s.va, s.ac, s.pr, s.su, s.mx, 1, lev, ventryU ppn s.va lev, d, false, ag⟩ := by simp [tellW, endedW, k0, k1, hl', hm]
        rw [a1, tell_ended (by rfl)]
        simp only [if_neg k1, if_neg k0, if_pos hm, Bool.true_eq_false, if_false]
        exact ⟨rfl, rfl, rfl, fun h => absurd h (by simp)⟩
      · have a1 : tellW ⟨true, s.ln, s.ro, s.va, s.ac, s.pr, s.su, s.mx, 0, lev, ventryU ppn s.va lev, 0#64, false, ag⟩ d g = ⟨true, s.ln, s.ro, s.va, s.ac, s.pr, s.su, s.mx, 0, lev, ventryU ppn s.va lev, d, true, ag⟩ := by simp [tellW, endedW, k0, k1, hl', hm]
        rw [a1]
        have e2 : ∀ t, tellL t ((d2, g2) :: r2) = tellL (tellW t d2 g2) r2 := fun _ => rfl
        rw [e2]
        cases g2
        · have a2 : tellW ⟨true, s.ln, s.ro, s.va, s.ac, s.pr, s.su, s.mx, 0, lev, ventryU ppn s.va lev, d, true, ag⟩ d2 false = startW ⟨true, s.ln, s.ro, s.va, s.ac, s.pr, s.su, s.mx, 0, lev, ventryU ppn s.va lev, d, true, w64 (ag + 1)⟩ := by simp [tellW, endedW]
          rw [a2]
          simp only [if_neg k1, if_neg k0, if_neg hm, Bool.true_eq_false, Bool.false_eq_true, if_false]
          exact ih (n - 2) (by omega) r2 (by omega) 2 s.ro _ _
        · have a2 : tellW ⟨true, s.ln, s.ro, s.va, s.ac, s.pr, s.su, s.mx, 0, lev, ventryU ppn s.va lev, d, true, ag⟩ d2 true = ⟨true, s.ln, s.ro, s.va, s.ac, s.pr, s.su, s.mx, 1, lev, ventryU ppn s.va lev, markU d s.ac, false, ag⟩ := by simp [tellW, endedW]
          rw [a2, tell_ended (by rfl)]
          simp only [if_neg k1, if_neg k0, if_neg hm, Bool.true_eq_false, if_false, if_true]
          exact ⟨rfl, rfl, rfl, fun h => absurd h (by simp)⟩

def s_wto (args : List AV) : Option AV :=
  match args with
  | [.g [.i ln, .u ro, .u va, .i ac, .i pr, .b su, .b mx]] => some (.g [.i ln, .u ro, .u va, .i ac, .i pr, .b su, .b mx])
  | _ => none
theorem s_wto_eq {ln ro va ac pr su mx} : s_wto [.g [.i ln, .u ro, .u va, .i ac, .i pr, .b su, .b mx]] = some (.g [.i ln, .u ro, .u va, .i ac, .i pr, .b su, .b mx]) := rfl
set_option maxRecDepth 100000 in
set_option maxHeartbeats 2000000 in
theorem ok_wto : PuOk Try.prog 13 s_wto := by
  refine pu_ok (tab := []) hmix TabOk.nil Try.func13 rfl Try.results13 Try.ntmps13 (by kernel_rfl) (by kernel_rfl) ?_
  intro args v h
  unfold s_wto at h
  split at h
  · rename_i ln ro va ac pr su mx
    simp only [Option.some.injEq] at h; subst h
    refine ⟨by simp only [List.length_cons, List.length_nil]; decide, rfl, rfl, ?_⟩
    (try simp (config := { maxSteps := 10000000 }) only [go_sem, List.reduceReplicate, BitVec.reduceOfInt, BitVec.reduceToNat, BitVec.reduceToInt, BitVec.reduceEq, BitVec.reduceLT, BitVec.reduceLE, BitVec.reduceAdd, BitVec.reduceSub, BitVec.reduceMul, BitVec.reduceUDiv, BitVec.reduceUMod, BitVec.reduceAnd, BitVec.reduceOr, BitVec.reduceXOr, BitVec.reduceNot, BitVec.reduceNeg, BitVec.reduceHShiftLeft, BitVec.reduceHShiftRight, Nat.reduceAdd, Nat.reduceMul, Nat.reduceSub, Nat.reduceBEq, Nat.reduceEqDiff, Nat.reduceLeDiff, Nat.reduceLT, Int.reduceLE, Int.reduceLT, Int.reduceAdd, Int.reduceSub, Int.reduceMul, Int.reduceNeg, Int.reduceToNat, Int.reduceEq, ↓reduceIte, reduceCtorEq]; repeat (simp (disch := omega) only [w64_d, ipos, ineg, dpos, dneg]; try simp (config := { maxSteps := 10000000 }) only [go_sem, List.reduceReplicate, BitVec.reduceOfInt, BitVec.reduceToNat, BitVec.reduceToInt, BitVec.reduceEq, BitVec.reduceLT, BitVec.reduceLE, BitVec.reduceAdd, BitVec.reduceSub, BitVec.reduceMul, BitVec.reduceUDiv, BitVec.reduceUMod, BitVec.reduceAnd, BitVec.reduceOr, BitVec.reduceXOr, BitVec.reduceNot, BitVec.reduceNeg, BitVec.reduceHShiftLeft, BitVec.reduceHShiftRight, Nat.reduceAdd, Nat.reduceMul, Nat.reduceSub, Nat.reduceBEq, Nat.reduceEqDiff, Nat.reduceLeDiff, Nat.reduceLT, Int.reduceLE, Int.reduceLT, Int.reduceAdd, Int.reduceSub, Int.reduceMul, Int.reduceNeg, Int.reduceToNat, Int.reduceEq, ↓reduceIte, reduceCtorEq]))
  · simp at h
def okI (ln : Int) (a : BitVec 64) (k : Nat) : Prop := ¬ (a + BitVec.ofNat 64 k < 2147483648#64) ∧ ¬ (2147483648#64 + BitVec.ofInt 64 (64 * ln) ≤ a + BitVec.ofNat 64 k)
theorem has_all {ln : Int} {a : BitVec 64} (h1 : 1 ≤ ln) (h2 : ln ≤ 4096) : (∀ k, k < 8 → okI ln a k) ↔ hasW ln a = true := by
  obtain ⟨n, rfl⟩ := Int.eq_ofNat_of_zero_le (by omega : 0 ≤ ln)
  have n1 : 1 ≤ n := by omega
  have n2 : n ≤ 4096 := by omega
  have c1 : BitVec.ofInt 64 (64 * (n : Int)) = BitVec.ofNat 64 (64 * n) := by
    rw [show (64 * (n : Int)) = ((64 * n : Nat) : Int) by omega]; exact BitVec.ofInt_natCast ..
  have c2 : BitVec.ofInt 64 (n : Int) = BitVec.ofNat 64 n := BitVec.ofInt_natCast ..
  have la := a.isLt
  have e1 : ∀ k, okI n a k ↔ (2147483648 ≤ (a.toNat + k % 18446744073709551616) % 18446744073709551616 ∧ (a.toNat + k % 18446744073709551616) % 18446744073709551616 < 2147483648 + 64 * n) := by
    intro k
    unfold okI
    rw [c1, BitVec.lt_def, BitVec.le_def, BitVec.toNat_add, BitVec.toNat_add, BitVec.toNat_ofNat, BitVec.toNat_ofNat]
    simp only [BitVec.toNat_ofNat, Nat.reducePow, Nat.reduceMod]
    omega
  have e2 : hasW (n : Int) a = true ↔ (2147483648 ≤ a.toNat ∧ a.toNat - 2147483648 < 64 * n ∧ 8 ≤ 64 * n - (a.toNat - 2147483648)) := by
    unfold hasW
    rw [if_neg (by omega), if_neg (by omega), c2]
    by_cases h : a < 2147483648#64
    · rw [if_pos h]
      rw [BitVec.lt_def] at h
      simp only [BitVec.toNat_ofNat, Nat.reducePow, Nat.reduceMod] at h
      simp; omega
    · rw [if_neg h]
      rw [BitVec.lt_def] at h
      simp only [BitVec.toNat_ofNat, Nat.reducePow, Nat.reduceMod] at h
      have s1 : (a - 2147483648#64).toNat = a.toNat - 2147483648 := by
        rw [BitVec.toNat_sub]; simp only [BitVec.toNat_ofNat, Nat.reducePow, Nat.reduceMod]; omega
      have s2 : (BitVec.ofNat 64 n * 64#64).toNat = 64 * n := by
        rw [BitVec.toNat_mul]; simp only [BitVec.toNat_ofNat, Nat.reducePow, Nat.reduceMod]; omega
      simp only [Bool.and_eq_true, decide_eq_true_eq]
      rw [BitVec.lt_def, BitVec.le_def, s1, s2]
      rw [BitVec.toNat_sub, s1, s2]
      simp only [BitVec.toNat_ofNat, Nat.reducePow, Nat.reduceMod]
      omega
  rw [e2]
  constructor
  · intro h
    have h0 := (e1 0).1 (h 0 (by omega))
    have h7 := (e1 7).1 (h 7 (by omega))
    omega
  · intro h k hk
    rw [e1]
    omega
def s_rin27 (args : List AV) : Option AV :=
  match args with
  | [.g [.i ln, .u ro, .u va, .i ac, .i pr, .b su, .b mx], .c (.u a)] => some (.c (.b (hasW ln a)))
  | _ => none
theorem s_rin27_eq {ln ro va ac pr su mx a} : s_rin27 [.g [.i ln, .u ro, .u va, .i ac, .i pr, .b su, .b mx], .c (.u a)] = some (.c (.b (hasW ln a))) := rfl
set_option maxRecDepth 100000 in
set_option maxHeartbeats 2000000 in
theorem ok_rin27 : PuOk Try.prog 29 s_rin27 := by
  refine pu_ok (tab := []) hmix TabOk.nil Try.func29 rfl Try.results29 Try.ntmps29 (by kernel_rfl) (by kernel_rfl) ?_
  intro args v h
  unfold s_rin27 at h
  split at h
  · rename_i ln ro va ac pr su mx a
    simp only [Option.some.injEq] at h; subst h
    refine ⟨by simp only [List.length_cons, List.length_nil]; decide, rfl, rfl, ?_⟩
    by_cases h1 : ln < 1
    · have e : hasW ln a = false := by unfold hasW; rw [if_pos h1]
      (try simp (config := { maxSteps := 10000000 }) only [go_sem, List.reduceReplicate, BitVec.reduceOfInt, BitVec.reduceToNat, BitVec.reduceToInt, BitVec.reduceEq, BitVec.reduceLT, BitVec.reduceLE, BitVec.reduceAdd, BitVec.reduceSub, BitVec.reduceMul, BitVec.reduceUDiv, BitVec.reduceUMod, BitVec.reduceAnd, BitVec.reduceOr, BitVec.reduceXOr, BitVec.reduceNot, BitVec.reduceNeg, BitVec.reduceHShiftLeft, BitVec.reduceHShiftRight, Nat.reduceAdd, Nat.reduceMul, Nat.reduceSub, Nat.reduceBEq, Nat.reduceEqDiff, Nat.reduceLeDiff, Nat.reduceLT, Int.reduceLE, Int.reduceLT, Int.reduceAdd, Int.reduceSub, Int.reduceMul, Int.reduceNeg, Int.reduceToNat, Int.reduceEq, ↓reduceIte, reduceCtorEq, h1, e]; repeat (simp (disch := omega) only [w64_d, ipos, ineg, dpos, dneg]; try simp (config := { maxSteps := 10000000 }) only [go_sem, List.reduceReplicate, BitVec.reduceOfInt, BitVec.reduceToNat, BitVec.reduceToInt, BitVec.reduceEq, BitVec.reduceLT, BitVec.reduceLE, BitVec.reduceAdd, BitVec.reduceSub, BitVec.reduceMul, BitVec.reduceUDiv, BitVec.reduceUMod, BitVec.reduceAnd, BitVec.reduceOr, BitVec.reduceXOr, BitVec.reduceNot, BitVec.reduceNeg, BitVec.reduceHShiftLeft, BitVec.reduceHShiftRight, Nat.reduceAdd, Nat.reduceMul, Nat.reduceSub, Nat.reduceBEq, Nat.reduceEqDiff, Nat.reduceLeDiff, Nat.reduceLT, Int.reduceLE, Int.reduceLT, Int.reduceAdd, Int.reduceSub, Int.reduceMul, Int.reduceNeg, Int.reduceToNat, Int.reduceEq, ↓reduceIte, reduceCtorEq, h1, e]))
    by_cases h2 : 4096 < ln
    · have e : hasW ln a = false := by unfold hasW; rw [if_neg h1, if_pos h2]
      (try simp (config := { maxSteps := 10000000 }) only [go_sem, List.reduceReplicate, BitVec.reduceOfInt, BitVec.reduceToNat, BitVec.reduceToInt, BitVec.reduceEq, BitVec.reduceLT, BitVec.reduceLE, BitVec.reduceAdd, BitVec.reduceSub, BitVec.reduceMul, BitVec.reduceUDiv, BitVec.reduceUMod, BitVec.reduceAnd, BitVec.reduceOr, BitVec.reduceXOr, BitVec.reduceNot, BitVec.reduceNeg, BitVec.reduceHShiftLeft, BitVec.reduceHShiftRight, Nat.reduceAdd, Nat.reduceMul, Nat.reduceSub, Nat.reduceBEq, Nat.reduceEqDiff, Nat.reduceLeDiff, Nat.reduceLT, Int.reduceLE, Int.reduceLT, Int.reduceAdd, Int.reduceSub, Int.reduceMul, Int.reduceNeg, Int.reduceToNat, Int.reduceEq, ↓reduceIte, reduceCtorEq, h1, h2, e]; repeat (simp (disch := omega) only [w64_d, ipos, ineg, dpos, dneg]; try simp (config := { maxSteps := 10000000 }) only [go_sem, List.reduceReplicate, BitVec.reduceOfInt, BitVec.reduceToNat, BitVec.reduceToInt, BitVec.reduceEq, BitVec.reduceLT, BitVec.reduceLE, BitVec.reduceAdd, BitVec.reduceSub, BitVec.reduceMul, BitVec.reduceUDiv, BitVec.reduceUMod, BitVec.reduceAnd, BitVec.reduceOr, BitVec.reduceXOr, BitVec.reduceNot, BitVec.reduceNeg, BitVec.reduceHShiftLeft, BitVec.reduceHShiftRight, Nat.reduceAdd, Nat.reduceMul, Nat.reduceSub, Nat.reduceBEq, Nat.reduceEqDiff, Nat.reduceLeDiff, Nat.reduceLT, Int.reduceLE, Int.reduceLT, Int.reduceAdd, Int.reduceSub, Int.reduceMul, Int.reduceNeg, Int.reduceToNat, Int.reduceEq, ↓reduceIte, reduceCtorEq, h1, h2, e]))
    have hA := has_all (ln := ln) (a := a) (by omega) (by omega)
    have e64 : w64 (64 * ln) = 64 * ln := w64_of (by omega)
    (try simp (config := { maxSteps := 10000000 }) only [go_sem, List.reduceReplicate, BitVec.reduceOfInt, BitVec.reduceToNat, BitVec.reduceToInt, BitVec.reduceEq, BitVec.reduceLT, BitVec.reduceLE, BitVec.reduceAdd, BitVec.reduceSub, BitVec.reduceMul, BitVec.reduceUDiv, BitVec.reduceUMod, BitVec.reduceAnd, BitVec.reduceOr, BitVec.reduceXOr, BitVec.reduceNot, BitVec.reduceNeg, BitVec.reduceHShiftLeft, BitVec.reduceHShiftRight, Nat.reduceAdd, Nat.reduceMul, Nat.reduceSub, Nat.reduceBEq, Nat.reduceEqDiff, Nat.reduceLeDiff, Nat.reduceLT, Int.reduceLE, Int.reduceLT, Int.reduceAdd, Int.reduceSub, Int.reduceMul, Int.reduceNeg, Int.reduceToNat, Int.reduceEq, ↓reduceIte, reduceCtorEq, h1, h2]; repeat (simp (disch := omega) only [w64_d, ipos, ineg, dpos, dneg]; try simp (config := { maxSteps := 10000000 }) only [go_sem, List.reduceReplicate, BitVec.reduceOfInt, BitVec.reduceToNat, BitVec.reduceToInt, BitVec.reduceEq, BitVec.reduceLT, BitVec.reduceLE, BitVec.reduceAdd, BitVec.reduceSub, BitVec.reduceMul, BitVec.reduceUDiv, BitVec.reduceUMod, BitVec.reduceAnd, BitVec.reduceOr, BitVec.reduceXOr, BitVec.reduceNot, BitVec.reduceNeg, BitVec.reduceHShiftLeft, BitVec.reduceHShiftRight, Nat.reduceAdd, Nat.reduceMul, Nat.reduceSub, Nat.reduceBEq, Nat.reduceEqDiff, Nat.reduceLeDiff, Nat.reduceLT, Int.reduceLE, Int.reduceLT, Int.reduceAdd, Int.reduceSub, Int.reduceMul, Int.reduceNeg, Int.reduceToNat, Int.reduceEq, ↓reduceIte, reduceCtorEq, h1, h2]))
    rw [arun_loop]
    refine ⟨{k : Nat // k ≤ 8 ∧ ∀ j, j < k → okI ln a j}, fun k => ([(1, .c (.u a)), (2, .c (.p 0 0 0)), (4, .c (.b false)), (5, .c (.u (BitVec.ofNat 64 k.1)))], [.own [.i ln, .u ro, .u va, .i ac, .i pr, .b su, .b mx]]), fun k => 8 - k.1, ⟨0, by omega, fun j hj => by omega⟩, ?_, ?_⟩
    · exact Wk.wk (Nat.zero_le _) (by simp [Am.get]) rfl (subH_refl _) rfl
    · rintro ⟨k, hk, hj⟩
      by_cases hlt : k < 8
      · have c1 : BitVec.ofNat 64 k < 8#64 := by rw [BitVec.lt_def, BitVec.toNat_ofNat]; simp; omega
        have c2 : BitVec.ofNat 64 k + 1#64 = BitVec.ofNat 64 (k + 1) := by rw [BitVec.ofNat_add]
        by_cases g1 : a + BitVec.ofNat 64 k < 2147483648#64
        · have e : hasW ln a = false := by
            cases hh : hasW ln a
            · rfl
            · exact absurd g1 (hA.2 hh k hlt).1
          (try simp (config := { maxSteps := 10000000 }) only [go_sem, List.reduceReplicate, BitVec.reduceOfInt, BitVec.reduceToNat, BitVec.reduceToInt, BitVec.reduceEq, BitVec.reduceLT, BitVec.reduceLE, BitVec.reduceAdd, BitVec.reduceSub, BitVec.reduceMul, BitVec.reduceUDiv, BitVec.reduceUMod, BitVec.reduceAnd, BitVec.reduceOr, BitVec.reduceXOr, BitVec.reduceNot, BitVec.reduceNeg, BitVec.reduceHShiftLeft, BitVec.reduceHShiftRight, Nat.reduceAdd, Nat.reduceMul, Nat.reduceSub, Nat.reduceBEq, Nat.reduceEqDiff, Nat.reduceLeDiff, Nat.reduceLT, Int.reduceLE, Int.reduceLT, Int.reduceAdd, Int.reduceSub, Int.reduceMul, Int.reduceNeg, Int.reduceToNat, Int.reduceEq, ↓reduceIte, reduceCtorEq, c1, g1, e]; repeat (simp (disch := omega) only [w64_d, ipos, ineg, dpos, dneg]; try simp (config := { maxSteps := 10000000 }) only [go_sem, List.reduceReplicate, BitVec.reduceOfInt, BitVec.reduceToNat, BitVec.reduceToInt, BitVec.reduceEq, BitVec.reduceLT, BitVec.reduceLE, BitVec.reduceAdd, BitVec.reduceSub, BitVec.reduceMul, BitVec.reduceUDiv, BitVec.reduceUMod, BitVec.reduceAnd, BitVec.reduceOr, BitVec.reduceXOr, BitVec.reduceNot, BitVec.reduceNeg, BitVec.reduceHShiftLeft, BitVec.reduceHShiftRight, Nat.reduceAdd, Nat.reduceMul, Nat.reduceSub, Nat.reduceBEq, Nat.reduceEqDiff, Nat.reduceLeDiff, Nat.reduceLT, Int.reduceLE, Int.reduceLT, Int.reduceAdd, Int.reduceSub, Int.reduceMul, Int.reduceNeg, Int.reduceToNat, Int.reduceEq, ↓reduceIte, reduceCtorEq, c1, g1, e]))
        by_cases g2 : 2147483648#64 + BitVec.ofInt 64 (64 * ln) ≤ a + BitVec.ofNat 64 k
        · have e : hasW ln a = false := by
            cases hh : hasW ln a
            · rfl
            · exact absurd g2 (hA.2 hh k hlt).2
          (try simp (config := { maxSteps := 10000000 }) only [go_sem, List.reduceReplicate, BitVec.reduceOfInt, BitVec.reduceToNat, BitVec.reduceToInt, BitVec.reduceEq, BitVec.reduceLT, BitVec.reduceLE, BitVec.reduceAdd, BitVec.reduceSub, BitVec.reduceMul, BitVec.reduceUDiv, BitVec.reduceUMod, BitVec.reduceAnd, BitVec.reduceOr, BitVec.reduceXOr, BitVec.reduceNot, BitVec.reduceNeg, BitVec.reduceHShiftLeft, BitVec.reduceHShiftRight, Nat.reduceAdd, Nat.reduceMul, Nat.reduceSub, Nat.reduceBEq, Nat.reduceEqDiff, Nat.reduceLeDiff, Nat.reduceLT, Int.reduceLE, Int.reduceLT, Int.reduceAdd, Int.reduceSub, Int.reduceMul, Int.reduceNeg, Int.reduceToNat, Int.reduceEq, ↓reduceIte, reduceCtorEq, c1, g1, g2, e64, e]; repeat (simp (disch := omega) only [w64_d, ipos, ineg, dpos, dneg]; try simp (config := { maxSteps := 10000000 }) only [go_sem, List.reduceReplicate, BitVec.reduceOfInt, BitVec.reduceToNat, BitVec.reduceToInt, BitVec.reduceEq, BitVec.reduceLT, BitVec.reduceLE, BitVec.reduceAdd, BitVec.reduceSub, BitVec.reduceMul, BitVec.reduceUDiv, BitVec.reduceUMod, BitVec.reduceAnd, BitVec.reduceOr, BitVec.reduceXOr, BitVec.reduceNot, BitVec.reduceNeg, BitVec.reduceHShiftLeft, BitVec.reduceHShiftRight, Nat.reduceAdd, Nat.reduceMul, Nat.reduceSub, Nat.reduceBEq, Nat.reduceEqDiff, Nat.reduceLeDiff, Nat.reduceLT, Int.reduceLE, Int.reduceLT, Int.reduceAdd, Int.reduceSub, Int.reduceMul, Int.reduceNeg, Int.reduceToNat, Int.reduceEq, ↓reduceIte, reduceCtorEq, c1, g1, g2, e64, e]))
        · (try simp (config := { maxSteps := 10000000 }) only [go_sem, List.reduceReplicate, BitVec.reduceOfInt, BitVec.reduceToNat, BitVec.reduceToInt, BitVec.reduceEq, BitVec.reduceLT, BitVec.reduceLE, BitVec.reduceAdd, BitVec.reduceSub, BitVec.reduceMul, BitVec.reduceUDiv, BitVec.reduceUMod, BitVec.reduceAnd, BitVec.reduceOr, BitVec.reduceXOr, BitVec.reduceNot, BitVec.reduceNeg, BitVec.reduceHShiftLeft, BitVec.reduceHShiftRight, Nat.reduceAdd, Nat.reduceMul, Nat.reduceSub, Nat.reduceBEq, Nat.reduceEqDiff, Nat.reduceLeDiff, Nat.reduceLT, Int.reduceLE, Int.reduceLT, Int.reduceAdd, Int.reduceSub, Int.reduceMul, Int.reduceNeg, Int.reduceToNat, Int.reduceEq, ↓reduceIte, reduceCtorEq, c1, c2, g1, g2, e64]; repeat (simp (disch := omega) only [w64_d, ipos, ineg, dpos, dneg]; try simp (config := { maxSteps := 10000000 }) only [go_sem, List.reduceReplicate, BitVec.reduceOfInt, BitVec.reduceToNat, BitVec.reduceToInt, BitVec.reduceEq, BitVec.reduceLT, BitVec.reduceLE, BitVec.reduceAdd, BitVec.reduceSub, BitVec.reduceMul, BitVec.reduceUDiv, BitVec.reduceUMod, BitVec.reduceAnd, BitVec.reduceOr, BitVec.reduceXOr, BitVec.reduceNot, BitVec.reduceNeg, BitVec.reduceHShiftLeft, BitVec.reduceHShiftRight, Nat.reduceAdd, Nat.reduceMul, Nat.reduceSub, Nat.reduceBEq, Nat.reduceEqDiff, Nat.reduceLeDiff, Nat.reduceLT, Int.reduceLE, Int.reduceLT, Int.reduceAdd, Int.reduceSub, Int.reduceMul, Int.reduceNeg, Int.reduceToNat, Int.reduceEq, ↓reduceIte, reduceCtorEq, c1, c2, g1, g2, e64]))
          exact ⟨⟨k + 1, by omega, fun j hj' => by rcases Nat.lt_succ_iff_lt_or_eq.1 hj' with h | rfl; exact hj j h; exact ⟨g1, g2⟩⟩, by simp only; omega, Wk.wk (Nat.zero_le _) (by simp [Am.get]) rfl (subH_refl _) rfl⟩
      · obtain rfl : k = 8 := by omega
        have e : hasW ln a = true := hA.1 (fun j hj' => hj j hj')
        (try simp (config := { maxSteps := 10000000 }) only [go_sem, List.reduceReplicate, BitVec.reduceOfInt, BitVec.reduceToNat, BitVec.reduceToInt, BitVec.reduceEq, BitVec.reduceLT, BitVec.reduceLE, BitVec.reduceAdd, BitVec.reduceSub, BitVec.reduceMul, BitVec.reduceUDiv, BitVec.reduceUMod, BitVec.reduceAnd, BitVec.reduceOr, BitVec.reduceXOr, BitVec.reduceNot, BitVec.reduceNeg, BitVec.reduceHShiftLeft, BitVec.reduceHShiftRight, Nat.reduceAdd, Nat.reduceMul, Nat.reduceSub, Nat.reduceBEq, Nat.reduceEqDiff, Nat.reduceLeDiff, Nat.reduceLT, Int.reduceLE, Int.reduceLT, Int.reduceAdd, Int.reduceSub, Int.reduceMul, Int.reduceNeg, Int.reduceToNat, Int.reduceEq, ↓reduceIte, reduceCtorEq, e]; repeat (simp (disch := omega) only [w64_d, ipos, ineg, dpos, dneg]; try simp (config := { maxSteps := 10000000 }) only [go_sem, List.reduceReplicate, BitVec.reduceOfInt, BitVec.reduceToNat, BitVec.reduceToInt, BitVec.reduceEq, BitVec.reduceLT, BitVec.reduceLE, BitVec.reduceAdd, BitVec.reduceSub, BitVec.reduceMul, BitVec.reduceUDiv, BitVec.reduceUMod, BitVec.reduceAnd, BitVec.reduceOr, BitVec.reduceXOr, BitVec.reduceNot, BitVec.reduceNeg, BitVec.reduceHShiftLeft, BitVec.reduceHShiftRight, Nat.reduceAdd, Nat.reduceMul, Nat.reduceSub, Nat.reduceBEq, Nat.reduceEqDiff, Nat.reduceLeDiff, Nat.reduceLT, Int.reduceLE, Int.reduceLT, Int.reduceAdd, Int.reduceSub, Int.reduceMul, Int.reduceNeg, Int.reduceToNat, Int.reduceEq, ↓reduceIte, reduceCtorEq, e]))
  · simp at h

end
end Go.Proofs.Ytanblagbkhpolaa
