/- Layer 12: the document's locks: contracts. -/
import Derived.Test.YthfccacopffkgaaLkE
namespace Go.Proofs.Ythfccacopffkgaa
open Go.Am
set_option linter.unusedSimpArgs false
set_option linter.unusedVariables false
noncomputable section
set_option maxRecDepth 100000

section
variable {H : AH}
/-! ### is one in a list? -/
def s_rlin (args : List AV) (H : AH) : Option AV :=
  match args with
  | [.c x, .c (.i k)] =>
    match slP dcI H x with
    | some K => if K.length ≤ 1000000 then some (.c (.b (decide (k ∈ K)))) else none
    | none => none
  | _ => none
theorem s_rlin_of {x : Sc} {K : List Int} {k : Int} (h : slP dcI H x = some K) (hl : K.length ≤ 1000000) : s_rlin [.c x, .c (.i k)] H = some (.c (.b (decide (k ∈ K)))) := by
  simp only [s_rlin, h, hl, if_true]
set_option maxRecDepth 100000 in
set_option maxHeartbeats 2000000 in
theorem ok_rlin : FpOk Try.prog 40 (fun args H => (s_rlin args H).map fun v => (v, H)) := by
  refine fq_ok (s := s_rlin) (tab := []) hmix TabOk.nil Try.func40 rfl Try.results40 Try.ntmps40 (by kernel_rfl) (by kernel_rfl) ?_
  intro args H v h hargs hH
  unfold s_rlin at h
  split at h
  · rename_i x q
    split at h
    · rename_i K hK
      split at h
      · rename_i hn
        simp only [Option.some.injEq] at h
        subst h
        refine ⟨by simp only [List.length_cons, List.length_nil]; decide, rfl, ?_⟩
        have hx := slP_inv gI_d hK
        have xl := slP_len hK
        have xs := slP_isS hK
        (try simp (config := { maxSteps := 10000000 }) only [go_sem, seval]; repeat (simp (disch := omega) only [w64_d, ipos, ineg, dpos, dneg]; try simp (config := { maxSteps := 10000000 }) only [go_sem, seval]))
        rw [arun_loop]
        refine ⟨{k : Nat // k ≤ K.length ∧ ∀ j, j < k → ∀ y, K[j]? = some y → y ≠ q}, fun k => ([(0, .c x), (1, .c (.i q)), (5, .c (.i k.1))], H), fun k => K.length - k.1, ⟨0, by omega, fun j hj => absurd hj (Nat.not_lt_zero _)⟩, wkFL (by simp [Am.get]), ?_⟩
        rintro ⟨k, hk, hj⟩
        have k0 : (0 : Int) ≤ (k : Int) := by omega
        by_cases hlt : k < K.length
        rotate_left
        · obtain rfl : k = K.length := by omega
          have e : decide (q ∈ K) = false := by
            refine decide_eq_false fun hq => ?_
            obtain ⟨j, hjl, rfl⟩ := List.mem_iff_getElem.1 hq
            exact hj j hjl _ (List.getElem?_eq_getElem hjl) rfl
          rw [e]
          (try simp (config := { maxSteps := 10000000 }) only [go_sem, seval, xl, xs, as_len_y]; repeat (simp (disch := omega) only [w64_d, ipos, ineg, dpos, dneg]; try simp (config := { maxSteps := 10000000 }) only [go_sem, seval, xl, xs, as_len_y]))
          exact subH_refl _
        have kI : ((k : Int) < (K.length : Int)) := by omega
        obtain ⟨y, hy⟩ : ∃ y, K[k]? = some y := ⟨_, List.getElem?_eq_getElem hlt⟩
        have e1 : w64 ((k : Int) + 1) = ((k + 1 : Nat) : Int) := by rw [w64_d (by omega) (by omega)]; omega
        rcases hx with ⟨rfl, rfl⟩ | ⟨i1, v1, rfl, hv1, hl1, hcs1⟩
        · simp at hlt
        have hv1 := hv1.symm
        have g1 := slP_get hcs1 hy
        have b1 : k + 1 ≤ (hg H i1).cells.length := by omega
        by_cases hq : y = q
        · subst hq
          have e : decide (y ∈ K) = true := decide_eq_true (List.mem_of_getElem? hy)
          rw [e]
          (try simp (config := { maxSteps := 10000000 }) only [go_sem, seval, xl, xs, as_len_y, kI, k0, hv1, b1, g1, gI]; repeat (simp (disch := omega) only [w64_d, ipos, ineg, dpos, dneg]; try simp (config := { maxSteps := 10000000 }) only [go_sem, seval, xl, xs, as_len_y, kI, k0, hv1, b1, g1, gI]))
          exact subH_refl _
        · (try simp (config := { maxSteps := 10000000 }) only [go_sem, seval, xl, xs, as_len_y, kI, k0, hv1, b1, g1, gI, hq, e1]; repeat (simp (disch := omega) only [w64_d, ipos, ineg, dpos, dneg]; try simp (config := { maxSteps := 10000000 }) only [go_sem, seval, xl, xs, as_len_y, kI, k0, hv1, b1, g1, gI, hq, e1]))
          exact ⟨⟨k + 1, by omega, fun j hj' z hz => by
            rcases Nat.lt_succ_iff_lt_or_eq.1 hj' with h' | rfl
            · exact hj j h' z hz
            · rw [hy] at hz; simp at hz; subst hz; exact hq⟩, by simp only; omega, wkFL (by simp [Am.get])⟩
      · simp at h
    · simp at h
  · simp at h
/-! ### locks, as the document has them -/
structure Ly where
  h : Int
  x : Sc
  q : List Int
def lyC (y : Ly) : List Sc := [.i y.h, y.x]
theorem lyC_l (y : Ly) : (lyC y).length = 2 := rfl
def lyS (Y : List Ly) : LS := Y.map fun y => (y.h, y.q)
structure XI (H : AH) (id : Nat) (Y : List Ly) : Prop where
  o : hg H id = .vec 2 (Y.flatMap lyC)
  q : ∀ y ∈ Y, isx H y.x y.q
def xV (id : Nat) (Y : List Ly) : AV := .c (.sl id 0 (2 * Y.length) Y.length)
theorem ly_row {id : Nat} {Y : List Ly} (h : XI H id Y) : (hg H id).row = 2 * Y.length := by rw [h.o]; simp only [AObj.row]; rw [fm_len lyC_l, Nat.mul_comm]
theorem XI.uniq {id : Nat} {Y Z : List Ly} (h : XI H id Y) (h' : XI H id Z) : Y = Z := by
  have e := h.o
  rw [h'.o] at e
  simp only [AObj.vec.injEq, true_and] at e
  have key : ∀ (l m : List Ly), (∀ y ∈ l, isx H y.x y.q) → (∀ y ∈ m, isx H y.x y.q) → l.flatMap lyC = m.flatMap lyC → l = m := by
    intro l
    induction l with
    | nil => intro m _ _ hm; cases m with
      | nil => rfl
      | cons b m => simp [lyC] at hm
    | cons a l ih =>
      intro m hl hm' hm
      cases m with
      | nil => simp [lyC] at hm
      | cons b m =>
        simp only [List.flatMap_cons, lyC, List.cons_append, List.nil_append, List.cons.injEq, Sc.i.injEq] at hm
        obtain ⟨g1, g2, g3⟩ := hm
        have hq : a.q = b.q := isx_uniq (hl a (by simp)) (g2 ▸ hm' b (by simp))
        have hab : a = b := by cases a; cases b; simp only at g1 g2 hq; subst g1 g2 hq; rfl
        rw [hab, ih m (fun e he => hl e (by simp [he])) (fun e he => hm' e (by simp [he])) g3]
  exact (key _ _ h'.q h.q e).symm
/-- what is there, and stays -/
structure XKp (H K : AH) (id : Nat) (Y Z : List Ly) : Prop where
  len : H.length ≤ K.length
  n : Z.length = Y.length
  old : ∀ i, i < H.length → i ≠ id → hg K i = hg H i
  ids : ∀ z ∈ Z, ∀ i, sidI z.x = some i → (∃ y ∈ Y, sidI y.x = some i) ∨ H.length ≤ i
theorem XI.lt {id : Nat} {Y : List Ly} (h : XI H id Y) : id < H.length := hg_lt (by rw [h.o]; rfl)
theorem XI.frame {id : Nat} {Y : List Ly} {K : AH} (h : XI H id Y) (hk : hg K id = hg H id) (hq : ∀ y ∈ Y, ∀ i, sidI y.x = some i → hg K i = hg H i) : XI K id Y :=
  ⟨by rw [hk, h.o], fun y hy => isx_frame (h.q y hy) (hq y hy)⟩
theorem XI.app {id : Nat} {Y : List Ly} (h : XI H id Y) (X : AH) : XI (H ++ X) id Y := h.frame (hg_lt' h.lt) fun y hy i hi => hg_lt' (isx_lt (h.q y hy) hi).1
theorem XI.ne {id : Nat} {Y : List Ly} (h : XI H id Y) {y : Ly} (hy : y ∈ Y) {i : Nat} (hi : sidI y.x = some i) : i ≠ id := by
  intro c
  have := (isx_lt (h.q y hy) hi).2
  rw [c, h.o] at this
  simp at this
theorem lyS_len (Y : List Ly) : (lyS Y).length = Y.length := by simp [lyS]
theorem lyS_at {Y : List Ly} {k : Nat} {y : Ly} (h : Y[k]? = some y) : atS (lyS Y) (k : Int) = (y.h, y.q) := by
  unfold atS lyS
  rw [Int.toNat_natCast, List.getD_eq_getElem?_getD, List.getElem?_map, h]; rfl
theorem ly_cell {Y : List Ly} {k : Nat} {y : Ly} (h : Y[k]? = some y) : (Y.flatMap lyC).getD (k * 2) .any = .i y.h ∧ (Y.flatMap lyC).getD (k * 2 + 1) .any = y.x ∧ k * 2 + 2 ≤ (Y.flatMap lyC).length := by
  have a := fm_cell lyC_l h (i := 0) (by decide)
  have b := fm_cell lyC_l h (i := 1) (by decide)
  have hk : k < Y.length := by
    rcases Nat.lt_or_ge k Y.length with h' | h'
    · exact h'
    · rw [List.getElem?_eq_none h'] at h; simp at h
  exact ⟨a, b, fm_le lyC_l hk⟩
theorem ly_set {Y : List Ly} {k : Nat} (h : k < Y.length) (z : Ly) : (Y.set k z).flatMap lyC = ((Y.flatMap lyC).set (k * 2) (.i z.h)).set (k * 2 + 1) z.x := by
  induction Y generalizing k with
  | nil => simp at h
  | cons a Y ih =>
    cases k with
    | zero => simp [lyC]
    | succ k =>
      rw [List.set_cons_succ, List.flatMap_cons, ih (by simpa using h), List.flatMap_cons]
      have e : (k + 1) * 2 = k * 2 + 1 + 1 := by omega
      rw [e]; rfl
def s_rlright (args : List AV) (H : AH) : Option AV :=
  match args with
  | [.c (.sl _ _ _ n), .c (.i w), .c (.i a)] => some (.c (.b (decide (0 ≤ w) && decide (w ≤ 7) && decide (0 ≤ a) && decide (a < n))))
  | _ => none
set_option maxRecDepth 100000 in
set_option maxHeartbeats 2000000 in
theorem ok_rlright : FpOk Try.prog 39 (fun args H => (s_rlright args H).map fun v => (v, H)) := by
  refine fq_ok (s := s_rlright) (tab := []) hmix TabOk.nil Try.func39 rfl Try.results39 Try.ntmps39 (by kernel_rfl) (by kernel_rfl) ?_
  intro args H v h hargs hH
  unfold s_rlright at h
  split at h
  · rename_i i o v n w a
    simp only [Option.some.injEq] at h
    subst h
    refine ⟨by simp only [List.length_cons, List.length_nil]; decide, rfl, ?_⟩
    by_cases c1 : 0 ≤ w
    · by_cases c2 : w ≤ 7
      · by_cases c3 : 0 ≤ a
        · (try simp (config := { maxSteps := 10000000 }) only [go_sem, seval, c1, c2, c3]; repeat (simp (disch := omega) only [w64_d, ipos, ineg, dpos, dneg]; try simp (config := { maxSteps := 10000000 }) only [go_sem, seval, c1, c2, c3]))
          exact subH_refl _
        · (try simp (config := { maxSteps := 10000000 }) only [go_sem, seval, c1, c2, c3]; repeat (simp (disch := omega) only [w64_d, ipos, ineg, dpos, dneg]; try simp (config := { maxSteps := 10000000 }) only [go_sem, seval, c1, c2, c3]))
          exact subH_refl _
      · (try simp (config := { maxSteps := 10000000 }) only [go_sem, seval, c1, c2]; repeat (simp (disch := omega) only [w64_d, ipos, ineg, dpos, dneg]; try simp (config := { maxSteps := 10000000 }) only [go_sem, seval, c1, c2]))
        exact subH_refl _
    · (try simp (config := { maxSteps := 10000000 }) only [go_sem, seval, c1]; repeat (simp (disch := omega) only [w64_d, ipos, ineg, dpos, dneg]; try simp (config := { maxSteps := 10000000 }) only [go_sem, seval, c1]))
      exact subH_refl _
  · simp at h
theorem s_rlright_eq {id : Nat} {Y : List Ly} {w a : Int} : s_rlright [xV id Y, .c (.i w), .c (.i a)] H = some (.c (.b (rgtS (lyS Y) w a))) := by
  unfold xV s_rlright rgtS
  simp only [lyS_len]
  congr 4
  have : (w ≤ 7) = (w < 8) := propext (by omega)
  simp [this]
def yN (n : Nat) : List Ly := List.replicate n ⟨-1, .nils, []⟩
def s_rlnew (args : List AV) (H : AH) : Option (AV × AH) :=
  match args with
  | [.c (.i n)] => if 0 ≤ n ∧ n ≤ 1000 then some (xV H.length (yN n.toNat), H ++ [.vec 2 ((yN n.toNat).flatMap lyC)]) else none
  | _ => none
theorem len_rlnew (args : List AV) (H : AH) (v : AV) (H1 : AH) (h : s_rlnew args H = some (v, H1)) : H.length ≤ H1.length := by
  unfold s_rlnew at h
  repeat' split at h
  all_goals simp at h
  rw [← h.2]; simp
theorem yN_l (n : Nat) : (yN n).length = n := List.length_replicate
theorem yN_bel {n m : Nat} : ((yN n).flatMap lyC).all (Sc.bel m) = true := by
  rw [List.all_eq_true]
  intro s hs
  obtain ⟨y, hy, hs⟩ := List.mem_flatMap.1 hs
  obtain rfl := List.eq_of_mem_replicate hy
  simp only [lyC, List.mem_cons, List.not_mem_nil, or_false] at hs
  rcases hs with rfl | rfl <;> rfl
set_option maxRecDepth 100000 in
set_option maxHeartbeats 2000000 in
theorem ok_rlnew : FpOk Try.prog 15 s_rlnew := by
  refine fp_ok (s := s_rlnew) (tab := []) hmix TabOk.nil Try.func15 rfl Try.results15 Try.ntmps15 (by kernel_rfl) (by kernel_rfl) len_rlnew ?_
  intro args H v H1 h hargs hH
  unfold s_rlnew at h
  split at h
  · rename_i n
    split at h
    · rename_i hc
      simp only [Option.some.injEq, Prod.mk.injEq] at h
      obtain ⟨rfl, rfl⟩ := h
      refine ⟨by simp only [List.length_cons, List.length_nil]; decide, ?_⟩
      obtain ⟨m, rfl⟩ : ∃ m : Nat, n = m := ⟨n.toNat, by omega⟩
      rw [Int.toNat_natCast]
      have bb : ∀ k, belH (H ++ [.vec 2 ((yN k).flatMap lyC)]) = true := fun k => belH_app hH (by simp only [List.mem_singleton, forall_eq, AObj.scs]; exact yN_bel)
      (try simp (config := { maxSteps := 10000000 }) only [go_sem, seval]; repeat (simp (disch := omega) only [w64_d, ipos, ineg, dpos, dneg]; try simp (config := { maxSteps := 10000000 }) only [go_sem, seval]))
      refine arun_for m (fun k => ([(0, .c (.i m)), (3, xV H.length (yN k)), (4, .c (.i k))], H ++ [.vec 2 ((yN k).flatMap lyC)])) ?_ fun k hk => ?_
      · refine Wk.trans (Wk.nil 3 2 (by decide) rfl (by simp [lo])) (Wk.wk (by simp [lo]) (by simp [Am.get, xV, yN]) (by simp [AV.bel, Sc.bel, xV]) ?_ (bb _))
        exact subH_refl _
      · by_cases hlt : k < m
        · have k0 : (k : Int) < m := by omega
          have e1 : w64 ((k : Int) + 1) = ((k + 1 : Nat) : Int) := by rw [w64_d (by omega) (by omega)]; omega
          have ll : ((yN k).flatMap lyC).length = k * 2 := by rw [fm_len lyC_l, yN_l]
          have k5 : (k + 1) * 32 ≤ 1099511627776 := by omega
          have k6 : 2 * k = k * 2 := by omega
          (try simp (config := { maxSteps := 10000000 }) only [go_sem, seval, xV, yN_l, k0, e1, ll, k5, k6]; repeat (simp (disch := omega) only [w64_d, ipos, ineg, dpos, dneg]; try simp (config := { maxSteps := 10000000 }) only [go_sem, seval, xV, yN_l, k0, e1, ll, k5, k6]))
          have ys : (yN (k + 1)).flatMap lyC = (yN k).flatMap lyC ++ [.i (-1), .nils] := by
            unfold yN; rw [List.replicate_succ', fm_app]; rfl
          exact ⟨k + 1, by omega, by omega, Wk.wk (by simp [lo]) (by simp [Am.get]; omega) (by simp [AV.bel, Sc.bel]) (subH_pre _ ⟨.inr (by rw [ys]), trivial⟩) (bb _)⟩
        · obtain rfl : k = m := by omega
          (try simp (config := { maxSteps := 10000000 }) only [go_sem, seval]; repeat (simp (disch := omega) only [w64_d, ipos, ineg, dpos, dneg]; try simp (config := { maxSteps := 10000000 }) only [go_sem, seval]))
          exact fin_same
    · simp at h
  · simp at h
end
end
end Go.Proofs.Ythfccacopffkgaa
