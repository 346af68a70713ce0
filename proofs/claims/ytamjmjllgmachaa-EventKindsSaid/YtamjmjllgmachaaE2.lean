/- The law EventParts. -/
import Derived.Test.YtamjmjllgmachaaE1
import Derived.Test.YtamjmjllgmachaaFr
namespace Go.Proofs.Ytamjmjllgmachaa
open Go.Am
set_option linter.unusedSimpArgs false
set_option linter.unusedVariables false
noncomputable section

def fitB : Sc → K → Bool
  | .i x, .n .i64 => decide (-9223372036854775808 ≤ x) && decide (x ≤ 9223372036854775807)
  | .u _, .n .u64 => true
  | .b _, .q => true
  | _, _ => false
def fitLB : List Sc → List K → Bool
  | [], [] => true
  | s :: l, k :: m => fitB s k && fitLB l m
  | _, _ => false
theorem fit_of : ∀ {l : List Sc} {ks : List K}, fitLB l ks = true → L2 FitK l ks
  | [], [], _ => .nil
  | s :: l, k :: m, h => by
    simp only [fitLB, Bool.and_eq_true] at h
    refine .cons ?_ (fit_of h.2)
    have h1 := h.1
    unfold fitB at h1
    split at h1
    · simpa [FitK] using h1
    · trivial
    · trivial
    · simp at h1
  | [], _ :: _, h => by simp [fitLB] at h
  | _ :: _, [], h => by simp [fitLB] at h
def enmB : List (List UInt8) := [[], [102, 101, 116, 99, 104], [108, 111, 97, 100], [115, 116, 111, 114, 101], [97, 109, 111], [108, 114], [115, 99], [119, 97, 108, 107], [109, 97, 114, 107], [100, 101, 118, 114, 101, 97, 100], [100, 101, 118, 119, 114, 105, 116, 101], [112, 111, 108, 108], [100, 114, 97, 105, 110], [112, 111, 115, 116], [99, 104, 101, 99, 107], [102, 105, 108, 108], [117, 115, 101], [102, 108, 117, 115, 104], [116, 105, 99, 107], [105, 110, 112, 117, 116], [119, 105, 114, 101], []]
def enmL : List Sc := enmB.map fun l => .s ⟨l.toArray⟩
def enm (k : Nat) : ByteArray := ⟨(enmB.getD k []).toArray⟩
theorem enmL_len : enmL.length = 22 := rfl
theorem enmL_get {k : Nat} (h : k < 22) : enmL.getD k .any = .s (enm k) := by
  unfold enmL enm
  rw [List.getD_eq_getElem?_getD, List.getElem?_map, List.getD_eq_getElem?_getD, List.getElem?_eq_getElem (by exact h)]
  rfl
theorem enmL_pf : enmL.all Sc.pf = true := by decide
set_option maxRecDepth 100000 in
def s_enames (args : List AV) : Option AV :=
  match args with
  | [] => some (.g enmL)
  | _ => none
theorem s_enames_eq : s_enames [] = some (.g enmL) := rfl
set_option maxRecDepth 100000 in
set_option maxHeartbeats 2000000 in
theorem ok_enames : PuOk Try.prog 28 s_enames := by
  refine pu_ok (tab := []) hmix TabOk.nil Try.func28 rfl Try.results28 Try.ntmps28 (by kernel_rfl) (by kernel_rfl) ?_
  intro args v h
  unfold s_enames at h
  split at h
  · simp only [Option.some.injEq] at h; subst h
    refine ⟨by simp only [List.length_cons, List.length_nil]; decide, rfl, rfl, ?_⟩
    (try simp (config := { maxSteps := 10000000 }) only [go_sem, List.reduceReplicate, BitVec.reduceOfInt, BitVec.reduceToNat, BitVec.reduceToInt, BitVec.reduceEq, BitVec.reduceLT, BitVec.reduceLE, BitVec.reduceAdd, BitVec.reduceSub, BitVec.reduceMul, BitVec.reduceUDiv, BitVec.reduceUMod, BitVec.reduceAnd, BitVec.reduceOr, BitVec.reduceXOr, BitVec.reduceNot, BitVec.reduceNeg, BitVec.reduceHShiftLeft, BitVec.reduceHShiftRight, Nat.reduceAdd, Nat.reduceMul, Nat.reduceSub, Nat.reduceBEq, Nat.reduceEqDiff, Nat.reduceLeDiff, Nat.reduceLT, Int.reduceLE, Int.reduceLT, Int.reduceAdd, Int.reduceSub, Int.reduceMul, Int.reduceNeg, Int.reduceToNat, Int.reduceEq, ↓reduceIte, reduceCtorEq]; repeat (simp (disch := omega) only [w64_d, ipos, ineg, dpos, dneg]; try simp (config := { maxSteps := 10000000 }) only [go_sem, List.reduceReplicate, BitVec.reduceOfInt, BitVec.reduceToNat, BitVec.reduceToInt, BitVec.reduceEq, BitVec.reduceLT, BitVec.reduceLE, BitVec.reduceAdd, BitVec.reduceSub, BitVec.reduceMul, BitVec.reduceUDiv, BitVec.reduceUMod, BitVec.reduceAnd, BitVec.reduceOr, BitVec.reduceXOr, BitVec.reduceNot, BitVec.reduceNeg, BitVec.reduceHShiftLeft, BitVec.reduceHShiftRight, Nat.reduceAdd, Nat.reduceMul, Nat.reduceSub, Nat.reduceBEq, Nat.reduceEqDiff, Nat.reduceLeDiff, Nat.reduceLT, Int.reduceLE, Int.reduceLT, Int.reduceAdd, Int.reduceSub, Int.reduceMul, Int.reduceNeg, Int.reduceToNat, Int.reduceEq, ↓reduceIte, reduceCtorEq]))
    rfl
  · simp at h
def enameS (k : Int) : ByteArray := if knownB k = true then enm k.toNat else ⟨#[]⟩
def s_ename (args : List AV) : Option AV :=
  match args with
  | [.c (.i k)] => some (.c (.s (enameS k)))
  | _ => none
theorem s_ename_eq {k} : s_ename [.c (.i k)] = some (.c (.s (enameS k))) := rfl
set_option maxRecDepth 100000 in
set_option maxHeartbeats 2000000 in
theorem ok_ename : PuOk Try.prog 18 s_ename := by
  refine pu_ok (tab := [(27, .pu s_eknown), (28, .pu s_enames)]) hmix (TabOk.cons (e := .pu s_eknown) ok_eknown (TabOk.cons (e := .pu s_enames) ok_enames TabOk.nil)) Try.func18 rfl Try.results18 Try.ntmps18 (by kernel_rfl) (by kernel_rfl) ?_
  intro args v h
  unfold s_ename at h
  split at h
  · rename_i k
    simp only [Option.some.injEq] at h; subst h
    refine ⟨by simp only [List.length_cons, List.length_nil]; decide, rfl, rfl, ?_⟩
    cases h : knownB k
    · (try simp (config := { maxSteps := 10000000 }) only [go_sem, List.reduceReplicate, BitVec.reduceOfInt, BitVec.reduceToNat, BitVec.reduceToInt, BitVec.reduceEq, BitVec.reduceLT, BitVec.reduceLE, BitVec.reduceAdd, BitVec.reduceSub, BitVec.reduceMul, BitVec.reduceUDiv, BitVec.reduceUMod, BitVec.reduceAnd, BitVec.reduceOr, BitVec.reduceXOr, BitVec.reduceNot, BitVec.reduceNeg, BitVec.reduceHShiftLeft, BitVec.reduceHShiftRight, Nat.reduceAdd, Nat.reduceMul, Nat.reduceSub, Nat.reduceBEq, Nat.reduceEqDiff, Nat.reduceLeDiff, Nat.reduceLT, Int.reduceLE, Int.reduceLT, Int.reduceAdd, Int.reduceSub, Int.reduceMul, Int.reduceNeg, Int.reduceToNat, Int.reduceEq, ↓reduceIte, reduceCtorEq, s_eknown_eq, s_enames_eq, h, enameS]; repeat (simp (disch := omega) only [w64_d, ipos, ineg, dpos, dneg]; try simp (config := { maxSteps := 10000000 }) only [go_sem, List.reduceReplicate, BitVec.reduceOfInt, BitVec.reduceToNat, BitVec.reduceToInt, BitVec.reduceEq, BitVec.reduceLT, BitVec.reduceLE, BitVec.reduceAdd, BitVec.reduceSub, BitVec.reduceMul, BitVec.reduceUDiv, BitVec.reduceUMod, BitVec.reduceAnd, BitVec.reduceOr, BitVec.reduceXOr, BitVec.reduceNot, BitVec.reduceNeg, BitVec.reduceHShiftLeft, BitVec.reduceHShiftRight, Nat.reduceAdd, Nat.reduceMul, Nat.reduceSub, Nat.reduceBEq, Nat.reduceEqDiff, Nat.reduceLeDiff, Nat.reduceLT, Int.reduceLE, Int.reduceLT, Int.reduceAdd, Int.reduceSub, Int.reduceMul, Int.reduceNeg, Int.reduceToNat, Int.reduceEq, ↓reduceIte, reduceCtorEq, s_eknown_eq, s_enames_eq, h, enameS]))
    · have h' := h
      simp only [knownB, Bool.and_eq_true, decide_eq_true_eq] at h
      obtain ⟨n, rfl⟩ := Int.eq_ofNat_of_zero_le (by omega : 0 ≤ k)
      have g := enmL_get (k := n) (by omega)
      (try simp (config := { maxSteps := 10000000 }) only [go_sem, List.reduceReplicate, BitVec.reduceOfInt, BitVec.reduceToNat, BitVec.reduceToInt, BitVec.reduceEq, BitVec.reduceLT, BitVec.reduceLE, BitVec.reduceAdd, BitVec.reduceSub, BitVec.reduceMul, BitVec.reduceUDiv, BitVec.reduceUMod, BitVec.reduceAnd, BitVec.reduceOr, BitVec.reduceXOr, BitVec.reduceNot, BitVec.reduceNeg, BitVec.reduceHShiftLeft, BitVec.reduceHShiftRight, Nat.reduceAdd, Nat.reduceMul, Nat.reduceSub, Nat.reduceBEq, Nat.reduceEqDiff, Nat.reduceLeDiff, Nat.reduceLT, Int.reduceLE, Int.reduceLT, Int.reduceAdd, Int.reduceSub, Int.reduceMul, Int.reduceNeg, Int.reduceToNat, Int.reduceEq, ↓reduceIte, reduceCtorEq, s_eknown_eq, s_enames_eq, h', enmL_len, g, enameS, Int.toNat_natCast]; repeat (simp (disch := omega) only [w64_d, ipos, ineg, dpos, dneg]; try simp (config := { maxSteps := 10000000 }) only [go_sem, List.reduceReplicate, BitVec.reduceOfInt, BitVec.reduceToNat, BitVec.reduceToInt, BitVec.reduceEq, BitVec.reduceLT, BitVec.reduceLE, BitVec.reduceAdd, BitVec.reduceSub, BitVec.reduceMul, BitVec.reduceUDiv, BitVec.reduceUMod, BitVec.reduceAnd, BitVec.reduceOr, BitVec.reduceXOr, BitVec.reduceNot, BitVec.reduceNeg, BitVec.reduceHShiftLeft, BitVec.reduceHShiftRight, Nat.reduceAdd, Nat.reduceMul, Nat.reduceSub, Nat.reduceBEq, Nat.reduceEqDiff, Nat.reduceLeDiff, Nat.reduceLT, Int.reduceLE, Int.reduceLT, Int.reduceAdd, Int.reduceSub, Int.reduceMul, Int.reduceNeg, Int.reduceToNat, Int.reduceEq, ↓reduceIte, reduceCtorEq, s_eknown_eq, s_enames_eq, h', enmL_len, g, enameS, Int.toNat_natCast]))
  · simp at h
def evC (k f a t : Int) : List Sc := [.i 0, .i k, .u 0#64, .u 0#64, .i 0, .i 0, .i 0, .u 0#64, .u 0#64, .b false, .i 0, .b false, .b false, .b false, .u 0#64, .i 0, .i 0, .u 0#64, .i 0, .u 0#64, .u 0#64, .b false] ++
  (List.replicate 8 [.b false, .b false, .b false, .u 0#64, .i 0]).flatten ++ [.i f, .i a, .i t]
theorem evC_1 : isE (evC 2 1 2 3) := fit_of (by decide)
theorem evC_2 : isE (evC 3 3 4 5) := fit_of (by decide)
def evL : List Ev := [⟨_, evC_1⟩, ⟨_, evC_2⟩]
theorem evL_ord : ordI evL = 1 ∧ ordB evL = false := by
  have h : badN evL = some 1 := by decide +kernel
  unfold ordI ordB; rw [h]; exact ⟨rfl, rfl⟩
theorem evL_row : evL.flatMap encE = evC 2 1 2 3 ++ evC 3 3 4 5 := rfl
set_option maxRecDepth 100000 in
def s_elive (args : List AV) : Option AV :=
  match args with
  | [] => some (.c (.b true))
  | _ => none
theorem s_elive_eq : s_elive [] = some (.c (.b true)) := rfl
set_option maxRecDepth 100000 in
set_option maxHeartbeats 2000000 in
theorem ok_elive : PuOk Try.prog 6 s_elive := by
  refine pu_ok (tab := [(7, .fq s_eordered), (18, .pu s_ename)]) hmix (TabOk.cons (e := .fq s_eordered) ok_eordered (TabOk.cons (e := .pu s_ename) ok_ename TabOk.nil)) Try.func6 rfl Try.results6 Try.ntmps6 (by kernel_rfl) (by kernel_rfl) ?_
  intro args v h
  unfold s_elive at h
  split at h
  · simp only [Option.some.injEq] at h; subst h
    refine ⟨by simp only [List.length_cons, List.length_nil]; decide, rfl, rfl, ?_⟩
    have k : ∀ X, s_eordered [.c (.sl 0 0 130 2)] (.vec 65 (evC 2 1 2 3 ++ evC 3 3 4 5) :: X) = some (.t [.c (.i 1), .c (.b false)]) := by
      intro X
      rw [← evL_ord.1, ← evL_ord.2]
      exact s_eordered_eq (slD_of encE_l dcE_e rfl rfl evL_row.symm) (by decide)
    have e1 : enameS 20 = ⟨#[119, 105, 114, 101]⟩ := by decide
    (try simp (config := { maxSteps := 10000000 }) only [go_sem, List.reduceReplicate, BitVec.reduceOfInt, BitVec.reduceToNat, BitVec.reduceToInt, BitVec.reduceEq, BitVec.reduceLT, BitVec.reduceLE, BitVec.reduceAdd, BitVec.reduceSub, BitVec.reduceMul, BitVec.reduceUDiv, BitVec.reduceUMod, BitVec.reduceAnd, BitVec.reduceOr, BitVec.reduceXOr, BitVec.reduceNot, BitVec.reduceNeg, BitVec.reduceHShiftLeft, BitVec.reduceHShiftRight, Nat.reduceAdd, Nat.reduceMul, Nat.reduceSub, Nat.reduceBEq, Nat.reduceEqDiff, Nat.reduceLeDiff, Nat.reduceLT, Int.reduceLE, Int.reduceLT, Int.reduceAdd, Int.reduceSub, Int.reduceMul, Int.reduceNeg, Int.reduceToNat, Int.reduceEq, ↓reduceIte, reduceCtorEq, s_ename_eq, e1]; repeat (simp (disch := omega) only [w64_d, ipos, ineg, dpos, dneg]; try simp (config := { maxSteps := 10000000 }) only [go_sem, List.reduceReplicate, BitVec.reduceOfInt, BitVec.reduceToNat, BitVec.reduceToInt, BitVec.reduceEq, BitVec.reduceLT, BitVec.reduceLE, BitVec.reduceAdd, BitVec.reduceSub, BitVec.reduceMul, BitVec.reduceUDiv, BitVec.reduceUMod, BitVec.reduceAnd, BitVec.reduceOr, BitVec.reduceXOr, BitVec.reduceNot, BitVec.reduceNeg, BitVec.reduceHShiftLeft, BitVec.reduceHShiftRight, Nat.reduceAdd, Nat.reduceMul, Nat.reduceSub, Nat.reduceBEq, Nat.reduceEqDiff, Nat.reduceLeDiff, Nat.reduceLT, Int.reduceLE, Int.reduceLT, Int.reduceAdd, Int.reduceSub, Int.reduceMul, Int.reduceNeg, Int.reduceToNat, Int.reduceEq, ↓reduceIte, reduceCtorEq, s_ename_eq, e1]))
    refine nxt_of (v := .t [.c (.i 1), .c (.b false)]) (congrArg (Option.map fun v => (v, _)) (k [])) ?_
    (try simp (config := { maxSteps := 10000000 }) only [go_sem, List.reduceReplicate, BitVec.reduceOfInt, BitVec.reduceToNat, BitVec.reduceToInt, BitVec.reduceEq, BitVec.reduceLT, BitVec.reduceLE, BitVec.reduceAdd, BitVec.reduceSub, BitVec.reduceMul, BitVec.reduceUDiv, BitVec.reduceUMod, BitVec.reduceAnd, BitVec.reduceOr, BitVec.reduceXOr, BitVec.reduceNot, BitVec.reduceNeg, BitVec.reduceHShiftLeft, BitVec.reduceHShiftRight, Nat.reduceAdd, Nat.reduceMul, Nat.reduceSub, Nat.reduceBEq, Nat.reduceEqDiff, Nat.reduceLeDiff, Nat.reduceLT, Int.reduceLE, Int.reduceLT, Int.reduceAdd, Int.reduceSub, Int.reduceMul, Int.reduceNeg, Int.reduceToNat, Int.reduceEq, ↓reduceIte, reduceCtorEq, s_ename_eq, e1]; repeat (simp (disch := omega) only [w64_d, ipos, ineg, dpos, dneg]; try simp (config := { maxSteps := 10000000 }) only [go_sem, List.reduceReplicate, BitVec.reduceOfInt, BitVec.reduceToNat, BitVec.reduceToInt, BitVec.reduceEq, BitVec.reduceLT, BitVec.reduceLE, BitVec.reduceAdd, BitVec.reduceSub, BitVec.reduceMul, BitVec.reduceUDiv, BitVec.reduceUMod, BitVec.reduceAnd, BitVec.reduceOr, BitVec.reduceXOr, BitVec.reduceNot, BitVec.reduceNeg, BitVec.reduceHShiftLeft, BitVec.reduceHShiftRight, Nat.reduceAdd, Nat.reduceMul, Nat.reduceSub, Nat.reduceBEq, Nat.reduceEqDiff, Nat.reduceLeDiff, Nat.reduceLT, Int.reduceLE, Int.reduceLT, Int.reduceAdd, Int.reduceSub, Int.reduceMul, Int.reduceNeg, Int.reduceToNat, Int.reduceEq, ↓reduceIte, reduceCtorEq, s_ename_eq, e1]))
  · simp at h

/-- a log that stands in an order that may be, told of all pairs -/
theorem ord_iff (L : List Ev) : (ordB L = true) ↔ ((∀ e ∈ L, selfB e.1 = true) ∧ L.Pairwise fun a b => behB a.1 b.1 = true) := by
  have h1 : (ordB L = true) ↔ ∀ i, i < L.length → okAt L i = true := by
    unfold ordB badN
    rw [Option.isNone_iff_eq_none, List.find?_range_eq_none]
    constructor
    · intro h i hi
      have := h i hi
      simpa using this
    · intro h i hi
      rw [h i hi]; rfl
  rw [h1]
  have h2 : ∀ i (hi : i < L.length), okAt L i = (selfB L[i].1 && (L.take i).all fun a => behB a.1 L[i].1) := by
    intro i hi
    unfold okAt; rw [List.getElem?_eq_getElem hi]
  constructor
  · intro h
    refine ⟨fun e he => ?_, List.pairwise_iff_getElem.2 fun i j hi hj hij => ?_⟩
    · obtain ⟨i, hi, rfl⟩ := List.getElem_of_mem he
      have := h i hi
      rw [h2 i hi, Bool.and_eq_true] at this
      exact this.1
    · have := h j hj
      rw [h2 j hj, Bool.and_eq_true] at this
      refine List.all_eq_true.1 this.2 L[i] ?_
      exact List.mem_take_iff_getElem.2 ⟨i, by omega, rfl⟩
  · rintro ⟨h3, h4⟩ i hi
    rw [h2 i hi, Bool.and_eq_true]
    refine ⟨h3 _ (List.getElem_mem hi), List.all_eq_true.2 fun a ha => ?_⟩
    obtain ⟨j, hj, rfl⟩ := List.mem_take_iff_getElem.1 ha
    exact List.pairwise_iff_getElem.1 h4 j i (by omega) hi (by omega)
theorem ordI_of {L : List Ev} (h : ordB L = true) : ordI L = 0 := by
  unfold ordB at h; unfold ordI
  rw [Option.isNone_iff_eq_none] at h
  rw [h]
/-- what stays -/
def keepL (L : List Ev) (S : List Bool) : Nat → List Ev
  | 0 => []
  | k + 1 => keepL L S k ++ (if S[k]? = some true then (L[k]?).toList else [])
theorem keep_sub (L : List Ev) (S : List Bool) : ∀ k, (keepL L S k).Sublist (L.take k)
  | 0 => by simp [keepL]
  | k + 1 => by
    rw [keepL, List.take_add_one]
    refine (keep_sub L S k).append ?_
    split
    · exact List.Sublist.refl _
    · exact List.nil_sublist _
theorem keep_ord {L : List Ev} {S : List Bool} {k : Nat} (h : ordB L = true) : ordB (keepL L S k) = true := by
  rw [ord_iff] at h ⊢
  have hs := (keep_sub L S k).trans (List.take_sublist k L)
  exact ⟨fun e he => h.1 e (hs.subset he), h.2.sublist hs⟩
theorem keep_len (L : List Ev) (S : List Bool) (k : Nat) : (keepL L S k).length ≤ k := by
  have := (keep_sub L S k).length_le
  rw [List.length_take] at this; omega
theorem slD_appE {α : Type} {w : Nat} {dc : List Sc → Option α} {H X : AH} {x : Sc} {L : List α} (h : slD w dc H x = some L) (hb : x.bel H.length = true) : slD w dc (H ++ X) x = some L := by
  cases x with
  | sl id off v n =>
    have lid : id < H.length := by simpa [Sc.bel] using hb
    cases off with
    | zero => simp only [slD] at h ⊢; rw [hg_lt' lid]; exact h
    | succ o => simp [slD] at h
  | _ => first | exact h | simp [slD] at h
theorem bel_appE {H : AH} {o : AObj} (hH : belH H = true) (ho : o.scs.all (Sc.bel (H.length + 1)) = true) : belH (H ++ [o]) = true := by
  simp only [belH, List.all_append, List.all_cons, List.all_nil, Bool.and_true, Bool.and_eq_true, List.length_append, List.length_cons, List.length_nil]
  refine ⟨List.all_eq_true.2 fun x hx => List.all_eq_true.2 fun s hs => ?_, ho⟩
  have := List.all_eq_true.1 (List.all_eq_true.1 hH x hx) s hs
  exact Sc.bel_mono this (by omega)
theorem row_bel (L : List Ev) (n : Nat) : (L.flatMap encE).all (Sc.bel n) = true := by
  rw [List.all_flatMap]; exact List.all_eq_true.2 fun e _ => (fit_all e.2).2.2 n
def s_eparts (args : List AV) (H : AH) : Option AV :=
  match args with
  | [.c x, .c y] =>
    match slD 65 dcE H x, slD 1 dcB H y with
    | some L, some S => if L.length ≤ 9223372036854775807 ∧ S.length ≤ 9223372036854775807 then some (.c (.b true)) else none
    | _, _ => none
  | _ => none
theorem s_eparts_inv {args : List AV} {H : AH} {v : AV} (h : s_eparts args H = some v) : ∃ x y L S, args = [.c x, .c y] ∧ slD 65 dcE H x = some L ∧ slD 1 dcB H y = some S ∧ L.length ≤ 9223372036854775807 ∧ S.length ≤ 9223372036854775807 ∧ v = .c (.b true) := by
  unfold s_eparts at h
  split at h
  · split at h
    · split at h
      · rename_i h1 h2 h3
        simp only [Option.some.injEq] at h
        exact ⟨_, _, _, _, rfl, h1, h2, h3.1, h3.2, h.symm⟩
      · simp at h
    · simp at h
  · simp at h
set_option maxHeartbeats 4000000 in
set_option maxRecDepth 100000 in
set_option maxHeartbeats 2000000 in
theorem ok_eparts : FpOk Try.prog 3 (fun args H => (s_eparts args H).map fun v => (v, H)) := by
  refine fq_ok (s := s_eparts) (tab := [(6, .pu s_elive), (7, .fq s_eordered)]) hmix (TabOk.cons (e := .pu s_elive) ok_elive (TabOk.cons (e := .fq s_eordered) ok_eordered TabOk.nil)) Try.func3 rfl Try.results3 Try.ntmps3 (by kernel_rfl) (by kernel_rfl) ?_
  intro args H v h hargs hH
  obtain ⟨x, y, L, S, rfl, h1, h2, hL, hS, rfl⟩ := s_eparts_inv h
  refine ⟨by simp only [List.length_cons, List.length_nil]; decide, rfl, ?_⟩
  have bx : x.bel H.length = true := by simp only [List.all_cons, AV.bel, Bool.and_eq_true] at hargs; exact hargs.1
  have byy : y.bel H.length = true := by simp only [List.all_cons, AV.bel, Bool.and_eq_true] at hargs; exact hargs.2.1
  have xl : ∀ e, lenB (.sl e) (.c x) = some (.c (.i L.length)) := by
    intro e
    rcases slD_inv dcE_d h1 with ⟨rfl, rfl⟩ | ⟨id2, v2, rfl, hv2, hcs2⟩ <;> rfl
  have yl : ∀ e, lenB (.sl e) (.c y) = some (.c (.i S.length)) := by
    intro e
    rcases slD_inv dcB_d h2 with ⟨rfl, rfl⟩ | ⟨id2, v2, rfl, hv2, hcs2⟩ <;> rfl
  by_cases h40 : (40 : Int) < (L.length : Int)
  · (try simp (config := { maxSteps := 10000000 }) only [go_sem, List.reduceReplicate, BitVec.reduceOfInt, BitVec.reduceToNat, BitVec.reduceToInt, BitVec.reduceEq, BitVec.reduceLT, BitVec.reduceLE, BitVec.reduceAdd, BitVec.reduceSub, BitVec.reduceMul, BitVec.reduceUDiv, BitVec.reduceUMod, BitVec.reduceAnd, BitVec.reduceOr, BitVec.reduceXOr, BitVec.reduceNot, BitVec.reduceNeg, BitVec.reduceHShiftLeft, BitVec.reduceHShiftRight, Nat.reduceAdd, Nat.reduceMul, Nat.reduceSub, Nat.reduceBEq, Nat.reduceEqDiff, Nat.reduceLeDiff, Nat.reduceLT, Int.reduceLE, Int.reduceLT, Int.reduceAdd, Int.reduceSub, Int.reduceMul, Int.reduceNeg, Int.reduceToNat, Int.reduceEq, ↓reduceIte, reduceCtorEq, s_elive_eq, s_eordered_eq, xl, h40]; repeat (simp (disch := omega) only [w64_d, ipos, ineg, dpos, dneg]; try simp (config := { maxSteps := 10000000 }) only [go_sem, List.reduceReplicate, BitVec.reduceOfInt, BitVec.reduceToNat, BitVec.reduceToInt, BitVec.reduceEq, BitVec.reduceLT, BitVec.reduceLE, BitVec.reduceAdd, BitVec.reduceSub, BitVec.reduceMul, BitVec.reduceUDiv, BitVec.reduceUMod, BitVec.reduceAnd, BitVec.reduceOr, BitVec.reduceXOr, BitVec.reduceNot, BitVec.reduceNeg, BitVec.reduceHShiftLeft, BitVec.reduceHShiftRight, Nat.reduceAdd, Nat.reduceMul, Nat.reduceSub, Nat.reduceBEq, Nat.reduceEqDiff, Nat.reduceLeDiff, Nat.reduceLT, Int.reduceLE, Int.reduceLT, Int.reduceAdd, Int.reduceSub, Int.reduceMul, Int.reduceNeg, Int.reduceToNat, Int.reduceEq, ↓reduceIte, reduceCtorEq, s_elive_eq, s_eordered_eq, xl, h40]))
    exact subH_refl _
  have k0 := s_eordered_eq h1 (by omega)
  cases hord : ordB L
  · (try simp (config := { maxSteps := 10000000 }) only [go_sem, List.reduceReplicate, BitVec.reduceOfInt, BitVec.reduceToNat, BitVec.reduceToInt, BitVec.reduceEq, BitVec.reduceLT, BitVec.reduceLE, BitVec.reduceAdd, BitVec.reduceSub, BitVec.reduceMul, BitVec.reduceUDiv, BitVec.reduceUMod, BitVec.reduceAnd, BitVec.reduceOr, BitVec.reduceXOr, BitVec.reduceNot, BitVec.reduceNeg, BitVec.reduceHShiftLeft, BitVec.reduceHShiftRight, Nat.reduceAdd, Nat.reduceMul, Nat.reduceSub, Nat.reduceBEq, Nat.reduceEqDiff, Nat.reduceLeDiff, Nat.reduceLT, Int.reduceLE, Int.reduceLT, Int.reduceAdd, Int.reduceSub, Int.reduceMul, Int.reduceNeg, Int.reduceToNat, Int.reduceEq, ↓reduceIte, reduceCtorEq, s_elive_eq, xl, h40, k0, hord]; repeat (simp (disch := omega) only [w64_d, ipos, ineg, dpos, dneg]; try simp (config := { maxSteps := 10000000 }) only [go_sem, List.reduceReplicate, BitVec.reduceOfInt, BitVec.reduceToNat, BitVec.reduceToInt, BitVec.reduceEq, BitVec.reduceLT, BitVec.reduceLE, BitVec.reduceAdd, BitVec.reduceSub, BitVec.reduceMul, BitVec.reduceUDiv, BitVec.reduceUMod, BitVec.reduceAnd, BitVec.reduceOr, BitVec.reduceXOr, BitVec.reduceNot, BitVec.reduceNeg, BitVec.reduceHShiftLeft, BitVec.reduceHShiftRight, Nat.reduceAdd, Nat.reduceMul, Nat.reduceSub, Nat.reduceBEq, Nat.reduceEqDiff, Nat.reduceLeDiff, Nat.reduceLT, Int.reduceLE, Int.reduceLT, Int.reduceAdd, Int.reduceSub, Int.reduceMul, Int.reduceNeg, Int.reduceToNat, Int.reduceEq, ↓reduceIte, reduceCtorEq, s_elive_eq, xl, h40, k0, hord]))
    exact subH_refl _
  (try simp (config := { maxSteps := 10000000 }) only [go_sem, List.reduceReplicate, BitVec.reduceOfInt, BitVec.reduceToNat, BitVec.reduceToInt, BitVec.reduceEq, BitVec.reduceLT, BitVec.reduceLE, BitVec.reduceAdd, BitVec.reduceSub, BitVec.reduceMul, BitVec.reduceUDiv, BitVec.reduceUMod, BitVec.reduceAnd, BitVec.reduceOr, BitVec.reduceXOr, BitVec.reduceNot, BitVec.reduceNeg, BitVec.reduceHShiftLeft, BitVec.reduceHShiftRight, Nat.reduceAdd, Nat.reduceMul, Nat.reduceSub, Nat.reduceBEq, Nat.reduceEqDiff, Nat.reduceLeDiff, Nat.reduceLT, Int.reduceLE, Int.reduceLT, Int.reduceAdd, Int.reduceSub, Int.reduceMul, Int.reduceNeg, Int.reduceToNat, Int.reduceEq, ↓reduceIte, reduceCtorEq, s_elive_eq, xl, h40, k0, hord]; repeat (simp (disch := omega) only [w64_d, ipos, ineg, dpos, dneg]; try simp (config := { maxSteps := 10000000 }) only [go_sem, List.reduceReplicate, BitVec.reduceOfInt, BitVec.reduceToNat, BitVec.reduceToInt, BitVec.reduceEq, BitVec.reduceLT, BitVec.reduceLE, BitVec.reduceAdd, BitVec.reduceSub, BitVec.reduceMul, BitVec.reduceUDiv, BitVec.reduceUMod, BitVec.reduceAnd, BitVec.reduceOr, BitVec.reduceXOr, BitVec.reduceNot, BitVec.reduceNeg, BitVec.reduceHShiftLeft, BitVec.reduceHShiftRight, Nat.reduceAdd, Nat.reduceMul, Nat.reduceSub, Nat.reduceBEq, Nat.reduceEqDiff, Nat.reduceLeDiff, Nat.reduceLT, Int.reduceLE, Int.reduceLT, Int.reduceAdd, Int.reduceSub, Int.reduceMul, Int.reduceNeg, Int.reduceToNat, Int.reduceEq, ↓reduceIte, reduceCtorEq, s_elive_eq, xl, h40, k0, hord]))
  refine arun_for L.length (fun k => ([(0, .c x), (1, .c y), (7, .c (.sl H.length 0 ((keepL L S k).length * 65) (keepL L S k).length)), (8, .c (.i k))], H ++ [.vec 65 ((keepL L S k).flatMap encE)])) ?_ fun k hk => ?_
  · exact Wk.trans (Wk.nil 7 65 (by decide) rfl (Nat.le_refl _)) (Wk.wk (by simp [lo]) (by simp [Am.get, keepL]) (by simp [AV.bel]; exact ⟨Sc.bel_mono bx (by omega), Sc.bel_mono byy (by omega), by simp [Sc.bel]⟩) (by simpa [keepL] using subH_refl _) (bel_appE hH (by rfl)))
  · have bk : ∀ k, belH (H ++ [.vec 65 ((keepL L S k).flatMap encE)]) = true := fun k => bel_appE hH (row_bel _ _)
    have bf : ∀ k, (([(0, AV.c x), (1, .c y), (7, .c (.sl H.length 0 ((keepL L S k).length * 65) (keepL L S k).length)), (8, .c (.i k))] : Fr).all fun p => p.2.bel (H ++ [AObj.vec 65 ((keepL L S k).flatMap encE)]).length) = true := by
      intro k; simp [AV.bel]; exact ⟨Sc.bel_mono bx (by omega), Sc.bel_mono byy (by omega), by simp [Sc.bel]⟩
    by_cases hlt : k < L.length
    · have e1 : w64 ((k : Int) + 1) = ((k + 1 : Nat) : Int) := by rw [w64_of (by omega)]; omega
      have skip : S[k]? ≠ some true → keepL L S (k + 1) = keepL L S k := fun hne => by rw [keepL, if_neg hne, List.append_nil]
      by_cases hks : k < S.length
      · rcases slD_inv dcB_d h2 with ⟨rfl, rfl⟩ | ⟨id2, v2, rfl, hv2, hcs2⟩
        · simp at hks
        have lid2 : id2 < H.length := by simpa [Sc.bel] using byy
        obtain ⟨q, hq⟩ : ∃ q, S[k]? = some q := ⟨_, List.getElem?_eq_getElem hks⟩
        have g2 := fm_le encB_l (L := S) (k := k) hks
        have g4 := fm1 (f := encB) (g := Sc.b) (fun _ => rfl) hq
        rw [← hcs2] at g2 g4
        have hv2 := hv2.symm
        have gx2 : ∀ X, hg (H ++ X) id2 = hg H id2 := fun X => hg_lt' lid2
        have hks' : ((k : Int) < (S.length : Int)) := by omega
        cases q
        · have sk := skip (by rw [hq]; simp)
          (try simp (config := { maxSteps := 10000000 }) only [go_sem, List.reduceReplicate, BitVec.reduceOfInt, BitVec.reduceToNat, BitVec.reduceToInt, BitVec.reduceEq, BitVec.reduceLT, BitVec.reduceLE, BitVec.reduceAdd, BitVec.reduceSub, BitVec.reduceMul, BitVec.reduceUDiv, BitVec.reduceUMod, BitVec.reduceAnd, BitVec.reduceOr, BitVec.reduceXOr, BitVec.reduceNot, BitVec.reduceNeg, BitVec.reduceHShiftLeft, BitVec.reduceHShiftRight, Nat.reduceAdd, Nat.reduceMul, Nat.reduceSub, Nat.reduceBEq, Nat.reduceEqDiff, Nat.reduceLeDiff, Nat.reduceLT, Int.reduceLE, Int.reduceLT, Int.reduceAdd, Int.reduceSub, Int.reduceMul, Int.reduceNeg, Int.reduceToNat, Int.reduceEq, ↓reduceIte, reduceCtorEq, xl, yl, e1, hks', g2, g4, hv2, gx2]; repeat (simp (disch := omega) only [w64_d, ipos, ineg, dpos, dneg]; try simp (config := { maxSteps := 10000000 }) only [go_sem, List.reduceReplicate, BitVec.reduceOfInt, BitVec.reduceToNat, BitVec.reduceToInt, BitVec.reduceEq, BitVec.reduceLT, BitVec.reduceLE, BitVec.reduceAdd, BitVec.reduceSub, BitVec.reduceMul, BitVec.reduceUDiv, BitVec.reduceUMod, BitVec.reduceAnd, BitVec.reduceOr, BitVec.reduceXOr, BitVec.reduceNot, BitVec.reduceNeg, BitVec.reduceHShiftLeft, BitVec.reduceHShiftRight, Nat.reduceAdd, Nat.reduceMul, Nat.reduceSub, Nat.reduceBEq, Nat.reduceEqDiff, Nat.reduceLeDiff, Nat.reduceLT, Int.reduceLE, Int.reduceLT, Int.reduceAdd, Int.reduceSub, Int.reduceMul, Int.reduceNeg, Int.reduceToNat, Int.reduceEq, ↓reduceIte, reduceCtorEq, xl, yl, e1, hks', g2, g4, hv2, gx2]))
          exact ⟨k + 1, by omega, by omega, Wk.wk (by simp [lo]) (by simp [Am.get, sk]) (bf (k + 1)) (by rw [sk]; exact subH_refl _) (bk (k + 1))⟩
        · rcases slD_inv dcE_d h1 with ⟨rfl, rfl⟩ | ⟨id, v, rfl, hv, hcs⟩
          · simp at hlt
          have lid : id < H.length := by simpa [Sc.bel] using bx
          obtain ⟨e, he⟩ : ∃ e, L[k]? = some e := ⟨_, List.getElem?_eq_getElem hlt⟩
          have gx : ∀ X, hg (H ++ X) id = hg H id := fun X => hg_lt' lid
          have g1 := fm_le encE_l (L := L) (k := k) hlt
          have g3 := fm_get encE_l he
          rw [← hcs] at g1 g3
          have hv := hv.symm
          have le : (encE e).length = 65 := encE_l e
          have oe : (encE e).all Sc.one = true := (fit_all e.2).1
          have te : (encE e).take 65 = encE e := by rw [← le, List.take_length]
          have kl := keep_len L S k
          have kk : keepL L S (k + 1) = keepL L S k ++ [e] := by rw [keepL, if_pos hq, he]; rfl
          have fl : ((keepL L S k).flatMap encE).length = (keepL L S k).length * 65 := fm_len encE_l _
          have c1 : ((keepL L S k).length + 1) * 520 ≤ 1099511627776 := by omega
          (try simp (config := { maxSteps := 10000000 }) only [go_sem, List.reduceReplicate, BitVec.reduceOfInt, BitVec.reduceToNat, BitVec.reduceToInt, BitVec.reduceEq, BitVec.reduceLT, BitVec.reduceLE, BitVec.reduceAdd, BitVec.reduceSub, BitVec.reduceMul, BitVec.reduceUDiv, BitVec.reduceUMod, BitVec.reduceAnd, BitVec.reduceOr, BitVec.reduceXOr, BitVec.reduceNot, BitVec.reduceNeg, BitVec.reduceHShiftLeft, BitVec.reduceHShiftRight, Nat.reduceAdd, Nat.reduceMul, Nat.reduceSub, Nat.reduceBEq, Nat.reduceEqDiff, Nat.reduceLeDiff, Nat.reduceLT, Int.reduceLE, Int.reduceLT, Int.reduceAdd, Int.reduceSub, Int.reduceMul, Int.reduceNeg, Int.reduceToNat, Int.reduceEq, ↓reduceIte, reduceCtorEq, xl, yl, e1, hks', g1, g2, g3, g4, hv, hv2, gx, gx2, le, oe, te, fl]; repeat (simp (disch := omega) only [w64_d, ipos, ineg, dpos, dneg]; try simp (config := { maxSteps := 10000000 }) only [go_sem, List.reduceReplicate, BitVec.reduceOfInt, BitVec.reduceToNat, BitVec.reduceToInt, BitVec.reduceEq, BitVec.reduceLT, BitVec.reduceLE, BitVec.reduceAdd, BitVec.reduceSub, BitVec.reduceMul, BitVec.reduceUDiv, BitVec.reduceUMod, BitVec.reduceAnd, BitVec.reduceOr, BitVec.reduceXOr, BitVec.reduceNot, BitVec.reduceNeg, BitVec.reduceHShiftLeft, BitVec.reduceHShiftRight, Nat.reduceAdd, Nat.reduceMul, Nat.reduceSub, Nat.reduceBEq, Nat.reduceEqDiff, Nat.reduceLeDiff, Nat.reduceLT, Int.reduceLE, Int.reduceLT, Int.reduceAdd, Int.reduceSub, Int.reduceMul, Int.reduceNeg, Int.reduceToNat, Int.reduceEq, ↓reduceIte, reduceCtorEq, xl, yl, e1, hks', g1, g2, g3, g4, hv, hv2, gx, gx2, le, oe, te, fl]))
          exact ⟨k + 1, by omega, by omega, Wk.wk (by simp [lo]) (by simp [Am.get, kk, Nat.add_mul]) (bf (k + 1)) (by rw [kk, List.flatMap_append, List.flatMap_cons, List.flatMap_nil, List.append_nil]; exact subH_2E) (bk (k + 1))⟩
      · have sk := skip (by rw [List.getElem?_eq_none (by omega)]; simp)
        have hks' : ¬ ((k : Int) < (S.length : Int)) := by omega
        (try simp (config := { maxSteps := 10000000 }) only [go_sem, List.reduceReplicate, BitVec.reduceOfInt, BitVec.reduceToNat, BitVec.reduceToInt, BitVec.reduceEq, BitVec.reduceLT, BitVec.reduceLE, BitVec.reduceAdd, BitVec.reduceSub, BitVec.reduceMul, BitVec.reduceUDiv, BitVec.reduceUMod, BitVec.reduceAnd, BitVec.reduceOr, BitVec.reduceXOr, BitVec.reduceNot, BitVec.reduceNeg, BitVec.reduceHShiftLeft, BitVec.reduceHShiftRight, Nat.reduceAdd, Nat.reduceMul, Nat.reduceSub, Nat.reduceBEq, Nat.reduceEqDiff, Nat.reduceLeDiff, Nat.reduceLT, Int.reduceLE, Int.reduceLT, Int.reduceAdd, Int.reduceSub, Int.reduceMul, Int.reduceNeg, Int.reduceToNat, Int.reduceEq, ↓reduceIte, reduceCtorEq, xl, yl, e1, hks']; repeat (simp (disch := omega) only [w64_d, ipos, ineg, dpos, dneg]; try simp (config := { maxSteps := 10000000 }) only [go_sem, List.reduceReplicate, BitVec.reduceOfInt, BitVec.reduceToNat, BitVec.reduceToInt, BitVec.reduceEq, BitVec.reduceLT, BitVec.reduceLE, BitVec.reduceAdd, BitVec.reduceSub, BitVec.reduceMul, BitVec.reduceUDiv, BitVec.reduceUMod, BitVec.reduceAnd, BitVec.reduceOr, BitVec.reduceXOr, BitVec.reduceNot, BitVec.reduceNeg, BitVec.reduceHShiftLeft, BitVec.reduceHShiftRight, Nat.reduceAdd, Nat.reduceMul, Nat.reduceSub, Nat.reduceBEq, Nat.reduceEqDiff, Nat.reduceLeDiff, Nat.reduceLT, Int.reduceLE, Int.reduceLT, Int.reduceAdd, Int.reduceSub, Int.reduceMul, Int.reduceNeg, Int.reduceToNat, Int.reduceEq, ↓reduceIte, reduceCtorEq, xl, yl, e1, hks']))
        exact ⟨k + 1, by omega, by omega, Wk.wk (by simp [lo]) (by simp [Am.get, sk]) (bf (k + 1)) (by rw [sk]; exact subH_refl _) (bk (k + 1))⟩
    · obtain rfl : k = L.length := by omega
      have kl := keep_len L S L.length
      have ko := keep_ord (S := S) (k := L.length) hord
      have k2 := s_eordered_eq (H := H ++ [.vec 65 ((keepL L S L.length).flatMap encE)]) (slD_of encE_l dcE_e (n := (keepL L S L.length).length) (v := (keepL L S L.length).length * 65) (by rw [hg_len]; simp only [hg_zero, or_vec]; rw [fm_len encE_l]) rfl (by rw [hg_len]; rfl)) (by omega)
      rw [ko, ordI_of ko] at k2
      (try simp (config := { maxSteps := 10000000 }) only [go_sem, List.reduceReplicate, BitVec.reduceOfInt, BitVec.reduceToNat, BitVec.reduceToInt, BitVec.reduceEq, BitVec.reduceLT, BitVec.reduceLE, BitVec.reduceAdd, BitVec.reduceSub, BitVec.reduceMul, BitVec.reduceUDiv, BitVec.reduceUMod, BitVec.reduceAnd, BitVec.reduceOr, BitVec.reduceXOr, BitVec.reduceNot, BitVec.reduceNeg, BitVec.reduceHShiftLeft, BitVec.reduceHShiftRight, Nat.reduceAdd, Nat.reduceMul, Nat.reduceSub, Nat.reduceBEq, Nat.reduceEqDiff, Nat.reduceLeDiff, Nat.reduceLT, Int.reduceLE, Int.reduceLT, Int.reduceAdd, Int.reduceSub, Int.reduceMul, Int.reduceNeg, Int.reduceToNat, Int.reduceEq, ↓reduceIte, reduceCtorEq, s_elive_eq, xl, k2]; repeat (simp (disch := omega) only [w64_d, ipos, ineg, dpos, dneg]; try simp (config := { maxSteps := 10000000 }) only [go_sem, List.reduceReplicate, BitVec.reduceOfInt, BitVec.reduceToNat, BitVec.reduceToInt, BitVec.reduceEq, BitVec.reduceLT, BitVec.reduceLE, BitVec.reduceAdd, BitVec.reduceSub, BitVec.reduceMul, BitVec.reduceUDiv, BitVec.reduceUMod, BitVec.reduceAnd, BitVec.reduceOr, BitVec.reduceXOr, BitVec.reduceNot, BitVec.reduceNeg, BitVec.reduceHShiftLeft, BitVec.reduceHShiftRight, Nat.reduceAdd, Nat.reduceMul, Nat.reduceSub, Nat.reduceBEq, Nat.reduceEqDiff, Nat.reduceLeDiff, Nat.reduceLT, Int.reduceLE, Int.reduceLT, Int.reduceAdd, Int.reduceSub, Int.reduceMul, Int.reduceNeg, Int.reduceToNat, Int.reduceEq, ↓reduceIte, reduceCtorEq, s_elive_eq, xl, k2]))
      exact subH_app _ _
theorem sig_eparts (avs : List AV) (H : AH) (h : SigA [.sl ksE, .sl [.q]] avs H) : s_eparts avs H = some (.c (.b true)) := by
  obtain ⟨x, r1, rfl, h2, l, hl, hp, hn⟩ := sig_row (f := encE) (w := 65) (dc := dcE) (p := fun _ => True) (fun cs hcs => ⟨⟨cs, hcs⟩, rfl, trivial⟩) encE_l dcE_e h
  obtain ⟨y, r2, rfl, h3, r, hr, _, hm⟩ := sig_row (f := encB) (w := 1) (dc := dcB) (p := fun _ => True) (fun cs hcs => by
    obtain ⟨a, _, rfl, ka, g⟩ := fit_cons hcs
    obtain rfl := fit_nil g
    obtain ⟨a, rfl⟩ := fk_q ka
    exact ⟨a, rfl, trivial⟩) encB_l dcB_e h2
  obtain rfl := sig_nil h3
  simp only [s_eparts, hl, hr]
  rw [if_pos ⟨hn, hm⟩]

end
end Go.Proofs.Ytamjmjllgmachaa
