/- Layer 32: a world's bytes, read: contracts. -/
import Derived.Test.YtcbhelkafelofaaGreatFl3
namespace Go.Proofs.YtcbhelkafelofaaGreat
open Go.Am
set_option linter.unusedSimpArgs false
set_option linter.unusedVariables false
noncomputable section
set_option maxRecDepth 100000

def wiF (n m : Int) : Bool := decide (1 ≤ n) && decide (n ≤ m)
def s_fwithin (args : List AV) : Option AV :=
  match args with
  | [.c (.i n), .c (.i m)] => some (.c (.b (wiF n m)))
  | _ => none
theorem s_fwithin_eq {n m} : s_fwithin [.c (.i n), .c (.i m)] = some (.c (.b (wiF n m))) := rfl
set_option maxRecDepth 100000 in
set_option maxHeartbeats 2000000 in
theorem ok_fwithin : PuOk Tryz.prog 82 s_fwithin := by
  refine pu_ok (tab := []) hmix TabOk.nil Tryz.func82 rfl Tryz.results82 Tryz.ntmps82 (by kernel_rfl) (by kernel_rfl) ?_
  intro args v h
  unfold s_fwithin at h
  split at h
  · rename_i n m
    simp only [Option.some.injEq] at h; subst h
    refine ⟨by simp only [List.length_cons, List.length_nil]; decide, rfl, rfl, ?_⟩
    by_cases h1 : 1 ≤ n
    all_goals (try simp (config := { maxSteps := 10000000 }) only [go_sem, seval, wiF, h1]; repeat (simp (disch := omega) only [w64_d, ipos, ineg, dpos, dneg]; try simp (config := { maxSteps := 10000000 }) only [go_sem, seval, wiF, h1]))
  · simp at h
def rightF (h t n b : Int) : Bool := wiF h 8 && (wiF t 64 && (wiF n 4096 && wiF b 32))
def s_fsright (args : List AV) : Option AV :=
  match args with
  | [.g [.i h, .i t, .i n, .i b]] => some (.c (.b (rightF h t n b)))
  | _ => none
theorem s_fsright_eq {h t n b} : s_fsright [.g [.i h, .i t, .i n, .i b]] = some (.c (.b (rightF h t n b))) := rfl
set_option maxRecDepth 100000 in
set_option maxHeartbeats 2000000 in
theorem ok_fsright : PuOk Tryz.prog 44 s_fsright := by
  refine pu_ok (tab := [(82, .pu s_fwithin)]) hmix (TabOk.cons (e := .pu s_fwithin) ok_fwithin TabOk.nil) Tryz.func44 rfl Tryz.results44 Tryz.ntmps44 (by kernel_rfl) (by kernel_rfl) ?_
  intro args v h
  unfold s_fsright at h
  split at h
  · rename_i h t n b
    simp only [Option.some.injEq] at h; subst h
    refine ⟨by simp only [List.length_cons, List.length_nil]; decide, rfl, rfl, ?_⟩
    cases h1 : wiF h 8
    all_goals cases h2 : wiF t 64
    all_goals cases h3 : wiF n 4096
    all_goals (try simp (config := { maxSteps := 10000000 }) only [go_sem, seval, s_fwithin_eq, rightF, h1, h2, h3]; repeat (simp (disch := omega) only [w64_d, ipos, ineg, dpos, dneg]; try simp (config := { maxSteps := 10000000 }) only [go_sem, seval, s_fwithin_eq, rightF, h1, h2, h3]))
  · simp at h
/-! ### where bytes stand -/
theorem ofF_ex (x : BitVec 64) : ∃ n : Nat, n = x.toNat - 2147483648 := ⟨_, rfl⟩
/-- (a choice: so that the kernel does not look into it) -/
noncomputable def ofF (x : BitVec 64) : Nat := Classical.choose (ofF_ex x)
theorem ofF_eq (x : BitVec 64) : ofF x = x.toNat - 2147483648 := Classical.choose_spec (ofF_ex x)
noncomputable def hasF (N : Nat) (x : BitVec 64) (n : Int) : Bool := decide (1 ≤ n) && (decide (2147483648 ≤ x.toNat) && (decide (ofF x < N) && decide (n ≤ ((N - ofF x : Nat) : Int))))
theorem hasF_iff {N : Nat} {x : BitVec 64} {n : Int} : hasF N x n = true ↔ 1 ≤ n ∧ 2147483648 ≤ x.toNat ∧ ofF x < N ∧ n ≤ ((N - ofF x : Nat) : Int) := by
  simp only [hasF, Bool.and_eq_true, decide_eq_true_eq]
theorem baseF {a : BitVec 64} (h : 2147483648 ≤ a.toNat) : (a - 2147483648#64).toNat = ofF a := by
  have e : (2147483648#64).toNat = 2147483648 := rfl
  rw [ofF_eq, BitVec.toNat_sub, e]
  have := a.isLt
  omega
theorem ofI_natF {n : Nat} (h : n < 18446744073709551616) : (BitVec.ofInt 64 (n : Int)).toNat = n := by
  rw [BitVec.toNat_ofInt]; omega
section
variable {H : AH}
theorem cutF_len {x : Sc} {B : List Int} (h : cutF H x = some B) : ∀ e, lenB (.sl e) (.c x) = some (.c (.i B.length)) := by
  intro e
  rcases cutF_inv h with ⟨rfl, rfl⟩ | ⟨i, o, rfl, _⟩ <;> rfl
theorem cutF_isS {x : Sc} {B : List Int} (h : cutF H x = some B) : (lenB (.sl 0) (.c x)).isSome = true := by rw [cutF_len h]; rfl
theorem cutF_one {x : Sc} {B : List Int} (h : cutF H x = some B) : Sc.one x = true := by rcases cutF_inv h with ⟨rfl, _⟩ | ⟨i, o, rfl, _⟩ <;> rfl
/-- a part of it -/
theorem cutF_sub {id off v N : Nat} {B : List Int} (h : cutF H (.sl id off v N) = some B) {a n : Nat} (hn : a + n ≤ B.length) : cutF H (.sl id (off + a) v n) = some ((B.drop a).take n) := by
  rcases cutF_inv h with ⟨c, _⟩ | ⟨i, o, e, h1, h2⟩
  · simp at c
  · simp only [Sc.sl.injEq] at e
    obtain ⟨rfl, rfl, rfl, rfl⟩ := e
    unfold cutF
    simp only
    rw [if_pos ⟨trivial, by omega⟩]
    have : ((hg H id).cells.drop (off + a)).take n = ((B.drop a).take n).flatMap e8F := by
      rw [← List.drop_drop]
      have e1 : (((hg H id).cells.drop off).drop a).take n = ((((hg H id).cells.drop off).take B.length).drop a).take n := by
        rw [List.drop_take, List.take_take, Nat.min_eq_left (by omega)]
      rw [e1, h2]
      have f1 : ∀ (L : List Int) (k : Nat), (L.flatMap e8F).drop k = (L.drop k).flatMap e8F := fun L k => by have := fm_drop e8F_l L k; rwa [Nat.mul_one] at this
      have f2 : ∀ (L : List Int) (k : Nat), (L.flatMap e8F).take k = (L.take k).flatMap e8F := fun L k => by
        induction L generalizing k with
        | nil => simp
        | cons x L ih => cases k with
          | zero => simp
          | succ k => simp [e8F, List.flatMap_cons] at ih ⊢; exact ih k
      rw [f1, f2]
    rw [this, byF_of]
/-- a world's bytes -/
def wdR (H : AH) (p : Nat) : Option (Sc × List Int) :=
  match hg H p with
  | .own (.i _ :: .i _ :: .i _ :: .i _ :: x :: _) => (cutF H x).map fun B => (x, B)
  | _ => none
theorem wdR_inv {p : Nat} {x : Sc} {B : List Int} (h : wdR H p = some (x, B)) : ∃ a b c d r, hg H p = .own (.i a :: .i b :: .i c :: .i d :: x :: r) ∧ cutF H x = some B := by
  unfold wdR at h
  split at h
  · rename_i a b c d y r ho
    rw [Option.map_eq_some_iff] at h
    obtain ⟨B', h1, h2⟩ := h
    simp only [Prod.mk.injEq] at h2
    obtain ⟨rfl, rfl⟩ := h2
    exact ⟨a, b, c, d, r, ho, h1⟩
  · simp at h
noncomputable def s_fspot (args : List AV) (H : AH) : Option AV :=
  match args with
  | [.c .nilp, .c (.u _), .c (.i _)] => some (.t [.c (.i 0), .c (.b false)])
  | [.c (.p p 0 0), .c (.u a), .c (.i n)] =>
    match wdR H p with
    | some (_, B) => if B.length ≤ 262144 ∧ n ≤ 9223372036854775807 then some (if hasF B.length a n = true then .t [.c (.i (ofF a)), .c (.b true)] else .t [.c (.i 0), .c (.b false)]) else none
    | none => none
  | _ => none
set_option maxRecDepth 100000 in
set_option maxHeartbeats 2000000 in
theorem ok_fspot : FpOk Tryz.prog 29 (fun args H => (s_fspot args H).map fun v => (v, H)) := by
  refine fq_ok (s := s_fspot) (tab := []) hmix TabOk.nil Tryz.func29 rfl Tryz.results29 Tryz.ntmps29 (by kernel_rfl) (by kernel_rfl) ?_
  intro args H v h hargs hH
  unfold s_fspot at h
  split at h
  · simp only [Option.some.injEq] at h
    subst h
    refine ⟨by simp only [List.length_cons, List.length_nil]; decide, rfl, ?_⟩
    (try simp (config := { maxSteps := 10000000 }) only [go_sem, seval]; repeat (simp (disch := omega) only [w64_d, ipos, ineg, dpos, dneg]; try simp (config := { maxSteps := 10000000 }) only [go_sem, seval]))
    exact subH_refl _
  · rename_i p a n
    split at h <;> try (simp at h; done)
    rename_i x B hx
    split at h <;> try (simp at h; done)
    rename_i hc
    obtain ⟨hB, hn⟩ := hc
    simp only [Option.some.injEq] at h
    subst h
    refine ⟨by simp only [List.length_cons, List.length_nil]; decide, by split <;> rfl, ?_⟩
    obtain ⟨c1, c2, c3, c4, r, ho, hcut⟩ := wdR_inv hx
    have xl := cutF_len hcut
    have xs := cutF_isS hcut
    by_cases h1 : n < 1
    · have e : ¬ hasF B.length a n = true := by rw [hasF_iff]; omega
      rw [if_neg e]
      (try simp (config := { maxSteps := 10000000 }) only [go_sem, seval, h1]; repeat (simp (disch := omega) only [w64_d, ipos, ineg, dpos, dneg]; try simp (config := { maxSteps := 10000000 }) only [go_sem, seval, h1]))
      exact subH_refl _
    have eb : (a < 2147483648#64) = (a.toNat < 2147483648) := by rw [BitVec.lt_def]; rfl
    by_cases h2 : a.toNat < 2147483648
    · have e : ¬ hasF B.length a n = true := by rw [hasF_iff]; omega
      rw [if_neg e]
      (try simp (config := { maxSteps := 10000000 }) only [go_sem, seval, h1, eb, h2]; repeat (simp (disch := omega) only [w64_d, ipos, ineg, dpos, dneg]; try simp (config := { maxSteps := 10000000 }) only [go_sem, seval, h1, eb, h2]))
      exact subH_refl _
    have h3 := baseF (a := a) (by omega)
    have e0 : (BitVec.ofInt 64 (B.length : Int)).toNat = B.length := ofI_natF (by omega)
    have e1 : (BitVec.ofInt 64 (B.length : Int) ≤ a - 2147483648#64) = (B.length ≤ ofF a) := by rw [BitVec.le_def, h3, e0]
    by_cases h4 : B.length ≤ ofF a
    · have e : ¬ hasF B.length a n = true := by rw [hasF_iff]; omega
      rw [if_neg e]
      (try simp (config := { maxSteps := 10000000 }) only [go_sem, seval, xl, xs, as_len_y, ho, h1, eb, h2, e1, h4]; repeat (simp (disch := omega) only [w64_d, ipos, ineg, dpos, dneg]; try simp (config := { maxSteps := 10000000 }) only [go_sem, seval, xl, xs, as_len_y, ho, h1, eb, h2, e1, h4]))
      exact subH_refl _
    obtain ⟨m, rfl⟩ : ∃ m : Nat, n = (m : Int) := ⟨n.toNat, by omega⟩
    have e2 : (BitVec.ofInt 64 (B.length : Int) - (a - 2147483648#64) < BitVec.ofInt 64 (m : Int)) = (B.length - ofF a < m) := by
      rw [BitVec.lt_def, BitVec.toNat_sub, h3, e0, ofI_natF (by omega)]
      congr 1
      omega
    by_cases h5 : B.length - ofF a < m
    · have e : ¬ hasF B.length a m = true := by rw [hasF_iff]; omega
      rw [if_neg e]
      (try simp (config := { maxSteps := 10000000 }) only [go_sem, seval, xl, xs, as_len_y, ho, h1, eb, h2, e1, h4, e2, h5]; repeat (simp (disch := omega) only [w64_d, ipos, ineg, dpos, dneg]; try simp (config := { maxSteps := 10000000 }) only [go_sem, seval, xl, xs, as_len_y, ho, h1, eb, h2, e1, h4, e2, h5]))
      exact subH_refl _
    · have e : hasF B.length a m = true := by rw [hasF_iff]; omega
      rw [if_pos e]
      have e3 : (a - 2147483648#64).toInt = (ofF a : Int) := by rw [BitVec.toInt_eq_toNat_cond, h3, if_pos (by omega)]
      (try simp (config := { maxSteps := 10000000 }) only [go_sem, seval, xl, xs, as_len_y, ho, h1, eb, h2, e1, h4, e2, h5, e3]; repeat (simp (disch := omega) only [w64_d, ipos, ineg, dpos, dneg]; try simp (config := { maxSteps := 10000000 }) only [go_sem, seval, xl, xs, as_len_y, ho, h1, eb, h2, e1, h4, e2, h5, e3]))
      exact subH_refl _
  · simp at h
end
end
end Go.Proofs.YtcbhelkafelofaaGreat
