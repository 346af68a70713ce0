/- Layer 32: a world's bytes, read: contracts. -/
import Derived.Test.YtcbhelkafelofaaGreatFl3
namespace Go.Proofs.YtcbhelkafelofaaGreat
open Go.Am
set_option linter.unusedSimpArgs false
set_option linter.unusedVariables false
noncomputable section
set_option maxRecDepth 100000

def wiF (n m : Int) : Bool := decide (1 ≤ n) && decide (n ≤ m)
def s_fwithin (args : List AV) : Option AV :=
  match args with
  | [.c (.i n), .c (.i m)] => some (.c (.b (wiF n m)))
  | _ => none
theorem s_fwithin_eq {n m} : s_fwithin [.c (.i n), .c (.i m)] = some (.c (.b (wiF n m))) := rfl
set_option maxRecDepth 100000 in
set_option maxHeartbeats 2000000 in
theorem ok_fwithin : PuOk Tryz.prog 82 s_fwithin := by
  refine pu_ok (tab := []) hmix TabOk.nil Tryz.func82 rfl Tryz.results82 Tryz.ntmps82 (by kernel_rfl) (by kernel_rfl) ?_
  intro args v h
  unfold s_fwithin at h
  split at h
  · rename_i n m
    simp only [Option.some.injEq] at h; subst h
    refine ⟨by simp only [List.length_cons, List.length_nil]; decide, rfl, rfl, ?_⟩
    by_cases h1 : 1 ≤ n
    all_goals (try simp (config := { maxSteps := 10000000 }) only [go_sem, seval, wiF, h1]; repeat (simp (disch := omega) only [w64_d, ipos, ineg, dpos, dneg]; try simp (config := { maxSteps := 10000000 }) only [go_sem, seval, wiF, h1]))
  · simp at h
def rightF (h t n b : Int) : Bool := wiF h 8 && (wiF t 64 && (wiF n 4096 && wiF b 32))
def s_fsright (args : List AV) : Option AV :=
  match args with
  | [.g [.i h, .i t, .i n, .i b]] => some (.c (.b (rightF h t n b)))
  | _ => none
theorem s_fsright_eq {h t n b} : s_fsright [.g [.i h, .i t, .i n, .i b]] = some (.c (.b (rightF h t n b))) := rfl
set_option maxRecDepth 100000 in
set_option maxHeartbeats 2000000 in
theorem ok_fsright : PuOk Tryz.prog 44 s_fsright := by
  refine pu_ok (tab := [(82, .pu s_fwithin)]) hmix (TabOk.cons (e := .pu s_fwithin) ok_fwithin TabOk.nil) Tryz.func44 rfl Tryz.results44 Tryz.ntmps44 (by kernel_rfl) (by kernel_rfl) ?_
  intro args v h
  unfold s_fsright at h
  split at h
  · rename_i h t n b
    simp only [Option.some.injEq] at h; subst h
    refine ⟨by simp only [List.length_cons, List.length_nil]; decide, rfl, rfl, ?_⟩
    cases h1 : wiF h 8
    all_goals cases h2 : wiF t 64
    all_goals cases h3 : wiF n 4096
    all_goals (try simp (config := { maxSteps := 10000000 }) only [go_sem, seval, s_fwithin_eq, rightF, h1, h2, h3]; repeat (simp (disch := omega) only [w64_d, ipos, ineg, dpos, dneg]; try simp (config := { maxSteps := 10000000 }) only [go_sem, seval, s_fwithin_eq, rightF, h1, h2, h3]))
  · simp at h
theorem ofF_ex (x : BitVec 64) : ∃ n : Nat, n = x.toNat - 2147483648 := ⟨_, rfl⟩
noncomputable def offW (x : BitVec 64) : Nat := Classical.choose (ofF_ex x)
theorem ofF_eq (x : BitVec 64) : offW x = x.toNat - 2147483648 := Classical.choose_spec (ofF_ex x)
noncomputable def hasF (N : Nat) (x : BitVec 64) (n : Int) : Bool := decide (1 ≤ n) && (decide (2147483648 ≤ x.toNat) && (decide (offW x < N) && decide (n ≤ ((N - offW x : Nat) : Int))))
theorem hasF_iff {N : Nat} {x : BitVec 64} {n : Int} : hasF N x n = true ↔ 1 ≤ n ∧ 2147483648 ≤ x.toNat ∧ offW x < N ∧ n ≤ ((N - offW x : Nat) : Int) := by
  simp only [hasF, Bool.and_eq_true, decide_eq_true_eq]
theorem baseF {a : BitVec 64} (h : 2147483648 ≤ a.toNat) : (a - 2147483648#64).toNat = offW a := by
  have e : (2147483648#64).toNat = 2147483648 := rfl
  rw [ofF_eq, BitVec.toNat_sub, e]
  have := a.isLt
  omega
theorem ofI_natF {n : Nat} (h : n < 18446744073709551616) : (BitVec.ofInt 64 (n : Int)).toNat = n := by
  rw [BitVec.toNat_ofInt]; omega
section
variable {H : AH}
theorem cutF_len {x : Sc} {B : List Int} (h : cutF H x = some B) : ∀ e, lenB (.sl e) (.c x) = some (.c (.i B.length)) := by
  intro e
  rcases cutF_inv h with ⟨rfl, rfl⟩ | ⟨i, o, rfl, _⟩ <;> rfl
theorem cutF_isS {x : Sc} {B : List Int} (h : cutF H x = some B) : (lenB (.sl 0) (.c x)).isSome = true := by rw [cutF_len h]; rfl
theorem cutF_sub {id off v N : Nat} {B : List Int} (h : cutF H (.sl id off v N) = some B) {a n : Nat} (hn : a + n ≤ B.length) : cutF H (.sl id (off + a) v n) = some ((B.drop a).take n) := by
  rcases cutF_inv h with ⟨c, _⟩ | ⟨i, o, e, h1, h2⟩
  · simp at c
  · simp only [Sc.sl.injEq] at e
    obtain ⟨rfl, rfl, rfl, rfl⟩ := e
    unfold cutF
    simp only
    rw [if_pos ⟨trivial, by omega⟩]
    have : ((hg H id).cells.drop (off + a)).take n = ((B.drop a).take n).flatMap e8F := by
      rw [← List.drop_drop]
      have e1 : (((hg H id).cells.drop off).drop a).take n = ((((hg H id).cells.drop off).take B.length).drop a).take n := by
        rw [List.drop_take, List.take_take, Nat.min_eq_left (by omega)]
      rw [e1, h2]
      have f1 : ∀ (L : List Int) (k : Nat), (L.flatMap e8F).drop k = (L.drop k).flatMap e8F := fun L k => by have := fm_drop e8F_l L k; rwa [Nat.mul_one] at this
      have f2 : ∀ (L : List Int) (k : Nat), (L.flatMap e8F).take k = (L.take k).flatMap e8F := fun L k => by
        induction L generalizing k with
        | nil => simp
        | cons x L ih => cases k with
          | zero => simp
          | succ k => simp [e8F, List.flatMap_cons] at ih ⊢; exact ih k
      rw [f1, f2]
    rw [this, byF_of]
def wdR (H : AH) (p : Nat) : Option (Sc × List Int) :=
  match hg H p with
  | .own (.i _ :: .i _ :: .i _ :: .i _ :: x :: _) => (cutF H x).map fun B => (x, B)
  | _ => none
theorem wdR_inv {p : Nat} {x : Sc} {B : List Int} (h : wdR H p = some (x, B)) : ∃ a b c d r, hg H p = .own (.i a :: .i b :: .i c :: .i d :: x :: r) ∧ cutF H x = some B := by
  unfold wdR at h
  split at h
  · rename_i a b c d y r ho
    rw [Option.map_eq_some_iff] at h
    obtain ⟨B', h1, h2⟩ := h
    simp only [Prod.mk.injEq] at h2
    obtain ⟨rfl, rfl⟩ := h2
    exact ⟨a, b, c, d, r, ho, h1⟩
  · simp at h
noncomputable def s_fspot (args : List AV) (H : AH) : Option AV :=
  match args with
  | [.c .nilp, .c (.u _), .c (.i _)] => some (.t [.c (.i 0), .c (.b false)])
  | [.c (.p p 0 0), .c (.u a), .c (.i n)] =>
    match wdR H p with
    | some (_, B) => if B.length ≤ 262144 ∧ n ≤ 9223372036854775807 then some (if hasF B.length a n = true then .t [.c (.i (offW a)), .c (.b true)] else .t [.c (.i 0), .c (.b false)]) else none
    | none => none
  | _ => none
set_option maxRecDepth 100000 in
set_option maxHeartbeats 2000000 in
theorem ok_fspot : FpOk Tryz.prog 29 (fun args H => (s_fspot args H).map fun v => (v, H)) := by
  refine fq_ok (s := s_fspot) (tab := []) hmix TabOk.nil Tryz.func29 rfl Tryz.results29 Tryz.ntmps29 (by kernel_rfl) (by kernel_rfl) ?_
  intro args H v h hargs hH
  unfold s_fspot at h
  split at h
  · simp only [Option.some.injEq] at h
    subst h
    refine ⟨by simp only [List.length_cons, List.length_nil]; decide, rfl, ?_⟩
    (try simp (config := { maxSteps := 10000000 }) only [go_sem, seval]; repeat (simp (disch := omega) only [w64_d, ipos, ineg, dpos, dneg]; try simp (config := { maxSteps := 10000000 }) only [go_sem, seval]))
    exact subH_refl _
  · rename_i p a n
    split at h <;> try (simp at h; done)
    rename_i x B hx
    split at h <;> try (simp at h; done)
    rename_i hc
    obtain ⟨hB, hn⟩ := hc
    simp only [Option.some.injEq] at h
    subst h
    refine ⟨by simp only [List.length_cons, List.length_nil]; decide, by split <;> rfl, ?_⟩
    obtain ⟨c1, c2, c3, c4, r, ho, hcut⟩ := wdR_inv hx
    have xl := cutF_len hcut
    have xs := cutF_isS hcut
    by_cases h1 : n < 1
    · have e : ¬ hasF B.length a n = true := by rw [hasF_iff]; omega
      rw [if_neg e]
      (try simp (config := { maxSteps := 10000000 }) only [go_sem, seval, h1]; repeat (simp (disch := omega) only [w64_d, ipos, ineg, dpos, dneg]; try simp (config := { maxSteps := 10000000 }) only [go_sem, seval, h1]))
      exact subH_refl _
    have eb : (a < 2147483648#64) = (a.toNat < 2147483648) := by rw [BitVec.lt_def]; rfl
    by_cases h2 : a.toNat < 2147483648
    · have e : ¬ hasF B.length a n = true := by rw [hasF_iff]; omega
      rw [if_neg e]
      (try simp (config := { maxSteps := 10000000 }) only [go_sem, seval, h1, eb, h2]; repeat (simp (disch := omega) only [w64_d, ipos, ineg, dpos, dneg]; try simp (config := { maxSteps := 10000000 }) only [go_sem, seval, h1, eb, h2]))
      exact subH_refl _
    have h3 := baseF (a := a) (by omega)
    have e0 : (BitVec.ofInt 64 (B.length : Int)).toNat = B.length := ofI_natF (by omega)
    have e1 : (BitVec.ofInt 64 (B.length : Int) ≤ a - 2147483648#64) = (B.length ≤ offW a) := by rw [BitVec.le_def, h3, e0]
    by_cases h4 : B.length ≤ offW a
    · have e : ¬ hasF B.length a n = true := by rw [hasF_iff]; omega
      rw [if_neg e]
      (try simp (config := { maxSteps := 10000000 }) only [go_sem, seval, xl, xs, as_len_y, ho, h1, eb, h2, e1, h4]; repeat (simp (disch := omega) only [w64_d, ipos, ineg, dpos, dneg]; try simp (config := { maxSteps := 10000000 }) only [go_sem, seval, xl, xs, as_len_y, ho, h1, eb, h2, e1, h4]))
      exact subH_refl _
    obtain ⟨m, rfl⟩ : ∃ m : Nat, n = (m : Int) := ⟨n.toNat, by omega⟩
    have e2 : (BitVec.ofInt 64 (B.length : Int) - (a - 2147483648#64) < BitVec.ofInt 64 (m : Int)) = (B.length - offW a < m) := by
      rw [BitVec.lt_def, BitVec.toNat_sub, h3, e0, ofI_natF (by omega)]
      congr 1
      omega
    by_cases h5 : B.length - offW a < m
    · have e : ¬ hasF B.length a m = true := by rw [hasF_iff]; omega
      rw [if_neg e]
      (try simp (config := { maxSteps := 10000000 }) only [go_sem, seval, xl, xs, as_len_y, ho, h1, eb, h2, e1, h4, e2, h5]; repeat (simp (disch := omega) only [w64_d, ipos, ineg, dpos, dneg]; try simp (config := { maxSteps := 10000000 }) only [go_sem, seval, xl, xs, as_len_y, ho, h1, eb, h2, e1, h4, e2, h5]))
      exact subH_refl _
    · have e : hasF B.length a m = true := by rw [hasF_iff]; omega
      rw [if_pos e]
      have e3 : (a - 2147483648#64).toInt = (offW a : Int) := by rw [BitVec.toInt_eq_toNat_cond, h3, if_pos (by omega)]
      (try simp (config := { maxSteps := 10000000 }) only [go_sem, seval, xl, xs, as_len_y, ho, h1, eb, h2, e1, h4, e2, h5, e3]; repeat (simp (disch := omega) only [w64_d, ipos, ineg, dpos, dneg]; try simp (config := { maxSteps := 10000000 }) only [go_sem, seval, xl, xs, as_len_y, ho, h1, eb, h2, e1, h4, e2, h5, e3]))
      exact subH_refl _
  · simp at h
end
end
end Go.Proofs.YtcbhelkafelofaaGreat
namespace Go.Proofs.YtcbhelkafelofaaGreat
open Go.Am
set_option linter.unusedSimpArgs false
set_option linter.unusedVariables false
noncomputable section
set_option maxRecDepth 100000

section
variable {H : AH}
theorem s_fspot_nil {a : BitVec 64} {n : Int} : s_fspot [.c .nilp, .c (.u a), .c (.i n)] H = some (.t [.c (.i 0), .c (.b false)]) := rfl
theorem s_fspot_eq {p : Nat} {x : Sc} {B : List Int} {a : BitVec 64} {n : Int} (h : wdR H p = some (x, B)) (hl : B.length ≤ 262144) (hn : n ≤ 9223372036854775807) : s_fspot [.c (.p p 0 0), .c (.u a), .c (.i n)] H = some (if hasF B.length a n = true then .t [.c (.i (offW a)), .c (.b true)] else .t [.c (.i 0), .c (.b false)]) := by
  simp only [s_fspot, h]; rw [if_pos ⟨hl, hn⟩]
noncomputable def ldV (B : List Int) (a : BitVec 64) (n : Int) : AV := if hasF B.length a n = true ∧ n ≤ 8 then .t [.c (.u (numW ((B.drop (offW a)).take n.toNat))), .c (.b true)] else .t [.c (.u 0#64), .c (.b false)]
noncomputable def s_fload (args : List AV) (H : AH) : Option AV :=
  match args with
  | [.c .nilp, .c (.u _), .c (.i _)] => some (.t [.c (.u 0#64), .c (.b false)])
  | [.c (.p p 0 0), .c (.u a), .c (.i n)] =>
    match wdR H p with
    | some (_, B) => if B.length ≤ 262144 ∧ n ≤ 9223372036854775807 then some (ldV B a n) else none
    | none => none
  | _ => none
theorem s_fload_eq {p : Nat} {x : Sc} {B : List Int} {a : BitVec 64} {n : Int} (h : wdR H p = some (x, B)) (hl : B.length ≤ 262144) (hn : n ≤ 9223372036854775807) : s_fload [.c (.p p 0 0), .c (.u a), .c (.i n)] H = some (ldV B a n) := by
  simp only [s_fload, h]; rw [if_pos ⟨hl, hn⟩]
set_option maxRecDepth 100000 in
set_option maxHeartbeats 2000000 in
theorem ok_fload : FpOk Tryz.prog 5 (fun args H => (s_fload args H).map fun v => (v, H)) := by
  refine fq_ok (s := s_fload) (tab := [(29, .fq s_fspot), (30, .fq s_fnum)]) hmix (TabOk.cons (e := .fq s_fspot) ok_fspot (TabOk.cons (e := .fq s_fnum) ok_fnum TabOk.nil)) Tryz.func5 rfl Tryz.results5 Tryz.ntmps5 (by kernel_rfl) (by kernel_rfl) ?_
  intro args H v h hargs hH
  unfold s_fload at h
  split at h
  · simp only [Option.some.injEq] at h
    subst h
    refine ⟨by simp only [List.length_cons, List.length_nil]; decide, rfl, ?_⟩
    (try simp (config := { maxSteps := 10000000 }) only [go_sem, seval, s_fspot_nil]; repeat (simp (disch := omega) only [w64_d, ipos, ineg, dpos, dneg]; try simp (config := { maxSteps := 10000000 }) only [go_sem, seval, s_fspot_nil]))
    exact subH_refl _
  · rename_i p a n
    split at h <;> try (simp at h; done)
    rename_i x B hx
    split at h <;> try (simp at h; done)
    rename_i hc
    obtain ⟨hB, hn⟩ := hc
    simp only [Option.some.injEq] at h
    subst h
    refine ⟨by simp only [List.length_cons, List.length_nil]; decide, by unfold ldV; split <;> rfl, ?_⟩
    obtain ⟨c1, c2, c3, c4, r, ho, hcut⟩ := wdR_inv hx
    have sp := s_fspot_eq hx hB hn (a := a)
    by_cases hh : hasF B.length a n = true
    · rw [if_pos hh] at sp
      by_cases h8 : 8 < n
      · have e : ldV B a n = .t [.c (.u 0#64), .c (.b false)] := if_neg (by omega)
        rw [e]
        (try simp (config := { maxSteps := 10000000 }) only [go_sem, seval, sp, h8]; repeat (simp (disch := omega) only [w64_d, ipos, ineg, dpos, dneg]; try simp (config := { maxSteps := 10000000 }) only [go_sem, seval, sp, h8]))
        exact subH_refl _
      have e : ldV B a n = .t [.c (.u (numW ((B.drop (offW a)).take n.toNat))), .c (.b true)] := if_pos ⟨hh, by omega⟩
      rw [e]
      rw [hasF_iff] at hh
      obtain ⟨m, rfl⟩ : ∃ m : Nat, n = (m : Int) := ⟨n.toNat, by omega⟩
      rw [Int.toNat_natCast]
      rcases cutF_inv hcut with ⟨rfl, rfl⟩ | ⟨id, off, rfl, g1, g2⟩
      · simp at hh
      have fn := s_fnum_eq (cutF_sub hcut (a := offW a) (n := m) (by omega)) (show cutF H .nils = some [] from rfl) (by rw [List.length_take]; omega) (by simp)
      rw [List.append_nil] at fn
      have w1 : w64 ((offW a : Int) + (m : Int)) = ((offW a + m : Nat) : Int) := by rw [w64_d (by omega) (by omega)]; omega
      have q1 : (0 : Int) ≤ (offW a : Int) := by omega
      have q2 : (offW a : Int) < ((offW a + m : Nat) : Int) := by omega
      have q3 : ((offW a + m : Nat) : Int) ≤ ((offW a + m : Nat) : Int) := Int.le_refl _
      have q4 : ((offW a + m : Nat) : Int) ≤ (B.length : Int) := by omega
      have q5 : offW a + m - offW a = m := Nat.add_sub_cancel_left ..
      have q6 : ¬ ((8 : Int) < (m : Int)) := h8
      (try simp (config := { maxSteps := 10000000 }) only [go_sem, seval, sp, ho, w1, q1, q2, q3, q4, q5, q6, fn, Int.toNat_natCast]; repeat (simp (disch := omega) only [w64_d, ipos, ineg, dpos, dneg]; try simp (config := { maxSteps := 10000000 }) only [go_sem, seval, sp, ho, w1, q1, q2, q3, q4, q5, q6, fn, Int.toNat_natCast]))
      exact subH_refl _
    · rw [if_neg hh] at sp
      have e : ldV B a n = .t [.c (.u 0#64), .c (.b false)] := if_neg (fun c => hh c.1)
      rw [e]
      (try simp (config := { maxSteps := 10000000 }) only [go_sem, seval, sp]; repeat (simp (disch := omega) only [w64_d, ipos, ineg, dpos, dneg]; try simp (config := { maxSteps := 10000000 }) only [go_sem, seval, sp]))
      exact subH_refl _
  · simp at h
end
end
end Go.Proofs.YtcbhelkafelofaaGreat
namespace Go.Proofs.YtcbhelkafelofaaGreat
open Go.Am
set_option linter.unusedSimpArgs false
set_option linter.unusedVariables false
noncomputable section
set_option maxRecDepth 100000

def rvZ : List Sc := [.b false, .u 0#64, .b false, .u 0#64, .b false, .u 0#64, .b false, .u 0#64, .b false, .u 0#64, .b false, .u 0#64, .b false, .u 0#64, .b false, .u 0#64]
def wdC (h t n b : Int) (x : Sc) (R : List Sc) (bus : Sc) (m : List Sc) : List Sc := .i h :: .i t :: .i n :: .i b :: x :: (R ++ bus :: m)
theorem zWld : zT Tryz.prog 89 = some (wdC 0 0 0 0 .nils rvZ .nilp (mlC 0 Z8)) := by kernel_rfl
section
variable {H : AH}
def nwF (k : Nat) (h t n b : Int) : AH := [.own [.i h, .i t, .i n, .i b], .own foC, .own (fbC (k + 1) h), .vec 1 (List.replicate (64 * n.toNat) (.k .u8 0)), .own (wdC h t n b (.sl (k + 3) 0 (64 * n.toNat) (64 * n.toNat)) rvZ (.p (k + 2) 0 0) (mlC h Z8))]
def s_fnew (args : List AV) (H : AH) : Option (AV × AH) :=
  match args with
  | [.g [.i h, .i t, .i n, .i b]] => if rightF h t n b = true then some (.t [.c (.p (H.length + 4) 0 0), .c (.i 0)], H ++ nwF H.length h t n b) else some (.t [.c .nilp, .c (.i 1)], H ++ [.own [.i h, .i t, .i n, .i b]])
  | _ => none
theorem len_fnew (args : List AV) (H : AH) (v : AV) (H1 : AH) (h : s_fnew args H = some (v, H1)) : H.length ≤ H1.length := by
  unfold s_fnew at h
  repeat' split at h
  all_goals simp at h
  all_goals rw [← h.2]
  all_goals simp
set_option maxRecDepth 100000 in
set_option maxHeartbeats 2000000 in
theorem ok_fnew : FpOk Tryz.prog 17 s_fnew := by
  refine fp_ok (s := s_fnew) (tab := [(44, .pu s_fsright), (45, .fp s_fbnew), (46, .pu s_mnew)]) hmix (TabOk.cons (e := .pu s_fsright) ok_fsright (TabOk.cons (e := .fp s_fbnew) ok_fbnew (TabOk.cons (e := .pu s_mnew) ok_mnew TabOk.nil))) Tryz.func17 rfl Tryz.results17 Tryz.ntmps17 (by kernel_rfl) (by kernel_rfl) len_fnew ?_
  intro args H v H1 h hargs hH
  unfold s_fnew at h
  split at h <;> try (simp at h; done)
  rename_i h0 t n b
  refine ⟨by simp only [List.length_cons, List.length_nil]; decide, ?_⟩
  cases hr : rightF h0 t n b with
  | false =>
    simp only [hr, Bool.false_eq_true, if_false, Option.some.injEq, Prod.mk.injEq] at h
    obtain ⟨rfl, rfl⟩ := h
    (try simp (config := { maxSteps := 10000000 }) only [go_sem, seval, s_fsright_eq, s_fbnew_eq, s_mnew_eq, hr]; repeat (simp (disch := omega) only [w64_d, ipos, ineg, dpos, dneg]; try simp (config := { maxSteps := 10000000 }) only [go_sem, seval, s_fsright_eq, s_fbnew_eq, s_mnew_eq, hr]))
    exact fin_sameF
  | true =>
    simp only [hr, if_true, Option.some.injEq, Prod.mk.injEq] at h
    obtain ⟨rfl, rfl⟩ := h
    have hr2 := hr
    simp only [rightF, wiF, Bool.and_eq_true, decide_eq_true_eq] at hr2
    obtain ⟨⟨a1, a2⟩, ⟨b1, b2⟩, ⟨c1, c2⟩, d1, d2⟩ := hr2
    obtain ⟨m, rfl⟩ : ∃ m : Nat, n = (m : Int) := ⟨n.toNat, by omega⟩
    have e1 : w64 ((m : Int) * 64) = ((64 * m : Nat) : Int) := by rw [w64_d (by omega) (by omega)]; omega
    have e2 : ((64 * m : Nat) : Int) ≤ 1048576 := by omega
    have e3 : (0 : Int) ≤ ((64 * m : Nat) : Int) := by omega
    have bn := fun K => s_fbnew_eq (H := K) (n := h0) ⟨a1, a2⟩
    have mn := s_mnew_eq (n := h0)
    rw [if_pos ⟨a1, a2⟩] at mn
    have l0 := fun k => mlC_len k Z8_len
    have rep : (List.replicate (64 * m) [Sc.k .u8 0]).flatten = List.replicate (64 * m) (Sc.k .u8 0) := by
      generalize 64 * m = q
      induction q with
      | zero => rfl
      | succ q ih => rw [List.replicate_succ, List.flatten_cons, ih, List.replicate_succ]; rfl
    obtain ⟨T, hT⟩ : ∃ T : List Sc, T = rvZ ++ .nilp :: mlC 0 Z8 := ⟨_, rfl⟩
    have zW := zWld
    unfold wdC at zW
    rw [← hT] at zW
    have r16 : rvZ.length = 16 := rfl
    have t1 : List.take 16 T = rvZ := by rw [hT]; exact List.take_left' r16
    have t2 : List.drop 17 T = mlC 0 Z8 := by rw [hT]; rfl
    have t3 : T.length = 338 := by rw [hT, List.length_append, List.length_cons, l0]; rfl
    have t4 : ∀ p, List.take 17 (rvZ ++ p :: mlC 0 Z8) = rvZ ++ [p] := fun p => rfl
    have t5 : ∀ p, List.drop 338 (rvZ ++ p :: mlC 0 Z8) = [] := fun p => List.drop_of_length_le (by rw [List.length_append, List.length_cons, l0]; exact Nat.le_refl _)
    have o1 : rvZ.all Sc.one = true := rfl
    have o2 : (mlC h0 Z8).all Sc.one = true := rfl
    have l1 : (mlC h0 Z8).length = 321 := l0 h0
    have l2 : (mlC 0 Z8).length = 321 := l0 0
    unfold nwF wdC
    generalize mlC h0 Z8 = M at *
    (try simp (config := { maxSteps := 10000000 }) only [go_sem, seval, s_fsright_eq, s_fbnew_eq, s_mnew_eq, hr, bn, mn, e1, e2, e3, zW, rep, r16, t1, t2, t3, t4, t5, l1, l2, o1, o2, Int.toNat_natCast]; repeat (simp (disch := omega) only [w64_d, ipos, ineg, dpos, dneg]; try simp (config := { maxSteps := 10000000 }) only [go_sem, seval, s_fsright_eq, s_fbnew_eq, s_mnew_eq, hr, bn, mn, e1, e2, e3, zW, rep, r16, t1, t2, t3, t4, t5, l1, l2, o1, o2, Int.toNat_natCast]))
    exact fin_sameF
end
end
end Go.Proofs.YtcbhelkafelofaaGreat
namespace Go.Proofs.YtcbhelkafelofaaGreat
open Go.Am
set_option linter.unusedSimpArgs false
set_option linter.unusedVariables false
noncomputable section
set_option maxRecDepth 100000

theorem e8_drop (L : List Int) (k : Nat) : (L.flatMap e8F).drop k = (L.drop k).flatMap e8F := by have := fm_drop e8F_l L k; rwa [Nat.mul_one] at this
theorem e8_take (L : List Int) (k : Nat) : (L.flatMap e8F).take k = (L.take k).flatMap e8F := by
  induction L generalizing k with
  | nil => simp
  | cons x L ih => cases k with
    | zero => simp
    | succ k => simp [e8F, List.flatMap_cons] at ih ⊢; exact ih k
theorem e8w_len (L : List Int) : (L.flatMap e8F).length = L.length := by rw [fm_len e8F_l, Nat.mul_one]
theorem e8w_one (L : List Int) : (L.flatMap e8F).all Sc.one = true := by
  rw [List.all_flatMap]; exact List.all_eq_true.2 fun _ _ => rfl
def layB (B : List Int) (k : Nat) (b : List Int) : List Int := B.take k ++ b ++ B.drop (k + b.length)
theorem layB_len {B b : List Int} {k : Nat} (h : k + b.length ≤ B.length) : (layB B k b).length = B.length := by
  unfold layB
  simp only [List.length_append, List.length_take, List.length_drop]
  omega
theorem layB_nil {B : List Int} {k : Nat} : layB B k [] = B := by unfold layB; simp
theorem wr_e8 (B b : List Int) (k : Nat) : wr (B.flatMap e8F) k (b.flatMap e8F) = (layB B k b).flatMap e8F := by
  rw [wr_un, e8_take, e8w_len, e8_drop]
  unfold layB
  rw [List.flatMap_append, List.flatMap_append]
section
variable {H : AH}
def wdV (H : AH) (p : Nat) : Option (Nat × List Int) :=
  match hg H p with
  | .own (.i _ :: .i _ :: .i _ :: .i _ :: .sl id 0 v N :: _) =>
    match hg H id with
    | .vec 1 cs => (byF cs).bind fun B => if v = B.length ∧ N = B.length then some (id, B) else none
    | _ => none
  | _ => none
theorem wdV_inv {p id : Nat} {B : List Int} (h : wdV H p = some (id, B)) : (∃ a b c d r, hg H p = .own (.i a :: .i b :: .i c :: .i d :: .sl id 0 B.length B.length :: r)) ∧ hg H id = .vec 1 (B.flatMap e8F) := by
  unfold wdV at h
  split at h <;> try (simp at h; done)
  rename_i a b c d j v N r ho
  split at h <;> try (simp at h; done)
  rename_i cs hj
  rw [Option.bind_eq_some_iff] at h
  obtain ⟨B', h1, h2⟩ := h
  split at h2 <;> simp at h2
  rename_i hc
  obtain ⟨rfl, rfl⟩ := hc
  obtain ⟨rfl, rfl⟩ := h2
  exact ⟨⟨a, b, c, d, r, ho⟩, by rw [hj, byF_inv h1]⟩
theorem wdV_of {p id : Nat} {a b c d : Int} {B : List Int} {r : List Sc} (h1 : hg H p = .own (.i a :: .i b :: .i c :: .i d :: .sl id 0 B.length B.length :: r)) (h2 : hg H id = .vec 1 (B.flatMap e8F)) : wdV H p = some (id, B) := by
  unfold wdV
  simp [h1, h2, byF_of]
theorem cutF_vec {id : Nat} {B : List Int} (h : hg H id = .vec 1 (B.flatMap e8F)) : cutF H (.sl id 0 B.length B.length) = some B := by
  unfold cutF
  simp only [h, AObj.row, AObj.cells, e8w_len]
  rw [if_pos (by simp), List.drop_zero, List.take_of_length_le (by rw [e8w_len]; exact Nat.le_refl _), byF_of]
theorem wdV_R {p id : Nat} {B : List Int} (h : wdV H p = some (id, B)) : wdR H p = some (.sl id 0 B.length B.length, B) := by
  obtain ⟨⟨a, b, c, d, r, h1⟩, h2⟩ := wdV_inv h
  unfold wdR
  simp only [h1, cutF_vec h2, Option.map_some]
end
end
end Go.Proofs.YtcbhelkafelofaaGreat
namespace Go.Proofs.YtcbhelkafelofaaGreat
open Go.Am
set_option linter.unusedSimpArgs false
set_option linter.unusedVariables false
noncomputable section
set_option maxRecDepth 100000

section
variable {H : AH}
noncomputable def s_flay (args : List AV) (H : AH) : Option (AV × AH) :=
  match args with
  | [.c .nilp, .c (.u _), .c _] => some (.c (.b false), H)
  | [.c (.p p 0 0), .c (.u a), .c y] =>
    match wdV H p, cutF H y with
    | some (id, B), some b =>
      if B.length ≤ 262144 ∧ b.length ≤ 262144 then
        if b = [] then some (.c (.b true), H)
        else if hasF B.length a b.length = true then some (.c (.b true), H.set id (.vec 1 ((layB B (offW a) b).flatMap e8F)))
        else some (.c (.b false), H)
      else none
    | _, _ => none
  | _ => none
theorem s_flay_eq {p id : Nat} {a : BitVec 64} {y : Sc} {B b : List Int} (h : wdV H p = some (id, B)) (h2 : cutF H y = some b) (hB : B.length ≤ 262144) (hb : b.length ≤ 262144) : s_flay [.c (.p p 0 0), .c (.u a), .c y] H = if b = [] then some (.c (.b true), H)
        else if hasF B.length a b.length = true then some (.c (.b true), H.set id (.vec 1 ((layB B (offW a) b).flatMap e8F)))
        else some (.c (.b false), H) := by
  simp only [s_flay, h, h2]; rw [if_pos ⟨hB, hb⟩]
theorem len_flay (args : List AV) (H : AH) (v : AV) (H1 : AH) (h : s_flay args H = some (v, H1)) : H.length ≤ H1.length := by
  unfold s_flay at h
  repeat' split at h
  all_goals simp at h
  all_goals rw [← h.2]
  all_goals simp
set_option maxRecDepth 100000 in
set_option maxHeartbeats 2000000 in
theorem ok_flay : FpOk Tryz.prog 9 s_flay := by
  refine fp_ok (s := s_flay) (tab := [(29, .fq s_fspot)]) hmix (TabOk.cons (e := .fq s_fspot) ok_fspot TabOk.nil) Tryz.func9 rfl Tryz.results9 Tryz.ntmps9 (by kernel_rfl) (by kernel_rfl) len_flay ?_
  intro args H v H1 h hargs hH
  unfold s_flay at h
  split at h
  · simp only [Option.some.injEq, Prod.mk.injEq] at h
    obtain ⟨rfl, rfl⟩ := h
    refine ⟨by simp only [List.length_cons, List.length_nil]; decide, ?_⟩
    (try simp (config := { maxSteps := 10000000 }) only [go_sem, seval]; repeat (simp (disch := omega) only [w64_d, ipos, ineg, dpos, dneg]; try simp (config := { maxSteps := 10000000 }) only [go_sem, seval]))
    exact fin_sameF
  · rename_i p a y
    split at h <;> try (simp at h; done)
    rename_i id B b hw hy
    split at h <;> try (simp at h; done)
    rename_i hn
    obtain ⟨n1, n2⟩ := hn
    refine ⟨by simp only [List.length_cons, List.length_nil]; decide, ?_⟩
    obtain ⟨⟨c1, c2, c3, c4, r, h1⟩, h2⟩ := wdV_inv hw
    have yl := cutF_len hy
    have ys := cutF_isS hy
    split at h
    · rename_i hb
      subst hb
      simp only [Option.some.injEq, Prod.mk.injEq] at h
      obtain ⟨rfl, rfl⟩ := h
      simp only [List.length_nil] at yl
      (try simp (config := { maxSteps := 10000000 }) only [go_sem, seval, yl, ys, as_len_y]; repeat (simp (disch := omega) only [w64_d, ipos, ineg, dpos, dneg]; try simp (config := { maxSteps := 10000000 }) only [go_sem, seval, yl, ys, as_len_y]))
      exact fin_sameF
    rename_i hb
    have bl : 0 < b.length := List.length_pos_iff.2 hb
    have bz : ¬ ((b.length : Int) = 0) := by omega
    have sp := s_fspot_eq (wdV_R hw) n1 (show ((b.length : Nat) : Int) ≤ 9223372036854775807 by omega) (a := a)
    split at h
    · rename_i hh
      simp only [Option.some.injEq, Prod.mk.injEq] at h
      obtain ⟨rfl, rfl⟩ := h
      rw [if_pos hh] at sp
      rw [hasF_iff] at hh
      have k0 : (0 : Int) ≤ (offW a : Int) := by omega
      have k1 : (offW a : Int) ≤ (B.length : Int) := by omega
      have k1' : (offW a : Int) < (B.length : Int) := by omega
      have k2 : b.length ≤ B.length - offW a := by omega
      have k3 : ¬ b.length = 0 := by omega
      have k4 : offW a + b.length ≤ B.length := by omega
      have o1 := e8w_one b
      have l1 := e8w_len b
      have l2 := e8w_len B
      have w1 := wr_e8 B b (offW a)
      rcases cutF_inv hy with ⟨rfl, rfl⟩ | ⟨j, o, rfl, g1, g2⟩
      · simp at hb
      (try simp (config := { maxSteps := 10000000 }) only [go_sem, seval, yl, ys, as_len_y, bz, sp, h1, h2, k0, k1, k1', k2, k3, k4, o1, l1, l2, g1, g2, w1, Int.toNat_natCast]; repeat (simp (disch := omega) only [w64_d, ipos, ineg, dpos, dneg]; try simp (config := { maxSteps := 10000000 }) only [go_sem, seval, yl, ys, as_len_y, bz, sp, h1, h2, k0, k1, k1', k2, k3, k4, o1, l1, l2, g1, g2, w1, Int.toNat_natCast]))
      exact fin_sameF
    · rename_i hh
      simp only [Option.some.injEq, Prod.mk.injEq] at h
      obtain ⟨rfl, rfl⟩ := h
      rw [if_neg hh] at sp
      (try simp (config := { maxSteps := 10000000 }) only [go_sem, seval, yl, ys, as_len_y, bz, sp]; repeat (simp (disch := omega) only [w64_d, ipos, ineg, dpos, dneg]; try simp (config := { maxSteps := 10000000 }) only [go_sem, seval, yl, ys, as_len_y, bz, sp]))
      exact fin_sameF
  · simp at h
end
end
end Go.Proofs.YtcbhelkafelofaaGreat
namespace Go.Proofs.YtcbhelkafelofaaGreat
open Go.Am
set_option linter.unusedSimpArgs false
set_option linter.unusedVariables false
noncomputable section
set_option maxRecDepth 100000

theorem layB_step {B c : List Int} {k : Nat} {q : Int} (hk : k + c.length < B.length) : layB (layB B k c) (k + c.length) [q] = layB B k (c ++ [q]) := by
  have l1 : (B.take k ++ c).length = k + c.length := by rw [List.length_append, List.length_take]; omega
  unfold layB
  rw [List.take_append_of_le_length (by omega), List.take_of_length_le (by omega), List.drop_append, List.drop_eq_nil_of_le (by rw [l1]; simp), l1, List.drop_drop]
  simp only [List.length_cons, List.length_nil, List.length_append, List.nil_append, List.append_assoc]
  congr 4
  omega
section
variable {H : AH}
theorem wkFe {n : Nat} {fr fr' : Fr} {H K : AH} (h : H = K) (hf : ∀ p ∈ fr', Am.get fr p.1 = p.2) : Wk n fr H (fr', K) := by subst h; exact wkF hf
theorem setF_self {id : Nat} {o : AObj} (h : hg H id = o) (hl : id < H.length) : H.set id o = H := by
  apply List.ext_getElem?
  intro i
  rw [List.getElem?_set]
  split
  · rename_i e
    subst e
    rw [← h]
    unfold hg
    rw [List.getD_eq_getElem?_getD, List.getElem?_eq_getElem hl]; rfl
  · rfl
theorem cut_cell {id off v n : Nat} {L : List Int} (h : cutF H (.sl id off v n) = some L) : v = (hg H id).row ∧ n = L.length ∧ off + n ≤ (hg H id).cells.length ∧ ∀ k q, L[k]? = some q → (hg H id).cells.getD (off + k) .any = .k .u8 q ∧ off + k + 1 ≤ (hg H id).cells.length := by
  rcases cutF_inv h with ⟨c, _⟩ | ⟨i, o, e, g1, g2⟩
  · simp at c
  · simp only [Sc.sl.injEq] at e
    obtain ⟨rfl, rfl, rfl, rfl⟩ := e
    refine ⟨rfl, rfl, g1, fun k q hq => ?_⟩
    have kl : k < L.length := by
      rcases Nat.lt_or_ge k L.length with c | c
      · exact c
      · rw [List.getElem?_eq_none c] at hq; simp at hq
    have := congrArg (fun l => l.getD k .any) g2
    simp only [List.getD_eq_getElem?_getD, List.getElem?_take, List.getElem?_drop] at this ⊢
    rw [if_pos kl] at this
    refine ⟨?_, by omega⟩
    rw [this]
    have g := fm1 (f := e8F) (g := Sc.k .u8) (fun _ => rfl) hq
    simpa [List.getD_eq_getElem?_getD] using g
end
end
end Go.Proofs.YtcbhelkafelofaaGreat
namespace Go.Proofs.YtcbhelkafelofaaGreat
open Go.Am
set_option linter.unusedSimpArgs false
set_option linter.unusedVariables false
noncomputable section
set_option maxRecDepth 100000

def s_fresv0 (args : List AV) : Option AV :=
  match args with
  | [.c .nilp, .c (.i n)] => some (.t [.c (.u 0#64), .c (.b false)])
  | _ => none
def s_fknown (args : List AV) : Option AV :=
  match args with
  | [.c (.i k)] => if k = 2 then some (.c (.b true)) else none
  | _ => none
set_option maxRecDepth 100000 in
set_option maxHeartbeats 2000000 in
theorem ok_fknown : PuOk Tryz.prog 62 s_fknown := by
  refine pu_ok (tab := []) hmix TabOk.nil Tryz.func62 rfl Tryz.results62 Tryz.ntmps62 (by kernel_rfl) (by kernel_rfl) ?_
  intro args v h
  unfold s_fknown at h
  split at h
  · rename_i k
    split at h
    · rename_i hc
      simp only [Option.some.injEq] at h; subst h
      refine ⟨by simp only [List.length_cons, List.length_nil]; decide, rfl, rfl, ?_⟩
      subst hc
      (try simp (config := { maxSteps := 10000000 }) only [go_sem, seval]; repeat (simp (disch := omega) only [w64_d, ipos, ineg, dpos, dneg]; try simp (config := { maxSteps := 10000000 }) only [go_sem, seval]))
    · simp at h
  · simp at h
def s_fgrp1 (args : List AV) : Option AV :=
  match args with
  | [.c (.i k)] => if k = 2 then some (.c (.i 1)) else none
  | _ => none
set_option maxRecDepth 100000 in
set_option maxHeartbeats 2000000 in
theorem ok_fgrp1 : PuOk Tryz.prog 32 s_fgrp1 := by
  refine pu_ok (tab := [(62, .pu s_fknown)]) hmix (TabOk.cons (e := .pu s_fknown) ok_fknown TabOk.nil) Tryz.func32 rfl Tryz.results32 Tryz.ntmps32 (by kernel_rfl) (by kernel_rfl) ?_
  intro args v h
  unfold s_fgrp1 at h
  split at h
  · rename_i k
    split at h
    · rename_i hc
      simp only [Option.some.injEq] at h; subst h
      refine ⟨by simp only [List.length_cons, List.length_nil]; decide, rfl, rfl, ?_⟩
      subst hc
      have e : s_fknown [.c (.i 2)] = some (.c (.b true)) := rfl
      (try simp (config := { maxSteps := 10000000 }) only [go_sem, seval, e]; repeat (simp (disch := omega) only [w64_d, ipos, ineg, dpos, dneg]; try simp (config := { maxSteps := 10000000 }) only [go_sem, seval, e]))
    · simp at h
  · simp at h
def s_fshp1 (args : List AV) : Option AV :=
  match args with
  | [.g (.i k :: .u a :: .u x :: .i c :: .i s :: r)] => if k = 2 ∧ c = 0 ∧ s = 8 ∧ r.length = 14 ∧ r.all Sc.pf = true ∧ r.all Sc.one = true then some (.c (.b true)) else none
  | _ => none
set_option maxRecDepth 100000 in
set_option maxHeartbeats 2000000 in
theorem ok_fshp1 : PuOk Tryz.prog 40 s_fshp1 := by
  refine pu_ok (tab := []) hmix TabOk.nil Tryz.func40 rfl Tryz.results40 Tryz.ntmps40 (by kernel_rfl) (by kernel_rfl) ?_
  intro args v h
  unfold s_fshp1 at h
  split at h
  · rename_i k a x c s r
    split at h
    · rename_i hc
      simp only [Option.some.injEq] at h; subst h
      have pr := hc.2.2.2.2.1
      refine ⟨by simp only [List.length_cons, List.length_nil]; decide, by first | rfl | simp only [List.all_cons, List.all_nil, AV.pf, Sc.pf, Bool.and_true, *], by first | rfl | simp only [List.all_cons, List.all_nil, AV.pf, Sc.pf, Bool.and_true, *], ?_⟩
      obtain ⟨rfl, rfl, rfl, lr, pr, ro⟩ := hc
      have rt : r.take 14 = r := List.take_of_length_le (by omega)
      (try simp (config := { maxSteps := 10000000 }) only [go_sem, seval, lr, ro, rt]; repeat (simp (disch := omega) only [w64_d, ipos, ineg, dpos, dneg]; try simp (config := { maxSteps := 10000000 }) only [go_sem, seval, lr, ro, rt]))
    · simp at h
  · simp at h
section
variable {H : AH}
theorem cut_lt {id off v N : Nat} {B : List Int} (h : cutF H (.sl id off v N) = some B) (h0 : 0 < B.length) : id < H.length := by
  obtain ⟨_, e, h1, _⟩ := cut_cell h
  rcases Nat.lt_or_ge id H.length with c | c
  · exact c
  · rw [hg_ge _ c] at h1
    simp only [AObj.cells, List.length_nil] at h1
    omega
theorem cut_app {id off v N : Nat} {B : List Int} (h : cutF H (.sl id off v N) = some B) (h0 : 0 < B.length) (X : AH) : cutF (H ++ X) (.sl id off v N) = some B := by
  rw [← h]
  unfold cutF
  simp only [hg_lt' (X := X) (cut_lt h h0)]
theorem wdR_app {p id off v N : Nat} {B : List Int} (h : wdR H p = some (.sl id off v N, B)) (h0 : 0 < B.length) (X : AH) : wdR (H ++ X) p = some (.sl id off v N, B) := by
  obtain ⟨c1, c2, c3, c4, r', ho, hcut⟩ := wdR_inv h
  unfold wdR
  simp only [hg_lt' (X := X) (hg_lt (H := H) (i := p) (by rw [ho]; rfl)), ho, cut_app hcut h0 X, Option.map_some]
def s_fhart (args : List AV) (H : AH) : Option AV :=
  match args with
  | [.c (.p p 0 0), .c (.i h)] =>
    match hg H p with
    | .own (.i n :: .i _ :: .i _ :: .i _ :: _) => some (.c (.b (decide (0 ≤ h) && decide (h < n))))
    | _ => none
  | _ => none
set_option maxRecDepth 100000 in
set_option maxHeartbeats 2000000 in
theorem ok_fhart : FpOk Tryz.prog 31 (fun args H => (s_fhart args H).map fun v => (v, H)) := by
  refine fq_ok (s := s_fhart) (tab := []) hmix TabOk.nil Tryz.func31 rfl Tryz.results31 Tryz.ntmps31 (by kernel_rfl) (by kernel_rfl) ?_
  intro args H v h hargs hH
  unfold s_fhart at h
  split at h <;> try (simp at h; done)
  rename_i p h0
  split at h <;> try (simp at h; done)
  rename_i n c1 c2 c3 r ho
  simp only [Option.some.injEq] at h
  subst h
  refine ⟨by simp only [List.length_cons, List.length_nil]; decide, rfl, ?_⟩
  by_cases g : 0 ≤ h0
  · by_cases g2 : h0 < n
    · (try simp (config := { maxSteps := 10000000 }) only [go_sem, seval, ho, g, g2]; repeat (simp (disch := omega) only [w64_d, ipos, ineg, dpos, dneg]; try simp (config := { maxSteps := 10000000 }) only [go_sem, seval, ho, g, g2]))
      exact subH_refl _
    · (try simp (config := { maxSteps := 10000000 }) only [go_sem, seval, ho, g, g2]; repeat (simp (disch := omega) only [w64_d, ipos, ineg, dpos, dneg]; try simp (config := { maxSteps := 10000000 }) only [go_sem, seval, ho, g, g2]))
      exact subH_refl _
  · (try simp (config := { maxSteps := 10000000 }) only [go_sem, seval, g]; repeat (simp (disch := omega) only [w64_d, ipos, ineg, dpos, dneg]; try simp (config := { maxSteps := 10000000 }) only [go_sem, seval, g]))
    exact subH_refl _
noncomputable def s_fpart1 (args : List AV) (H : AH) : Option AV :=
  match args with
  | [.c (.p p 0 0), .g (.i k :: .u a :: .u x :: .i c :: .i s :: r)] =>
    match wdR H p with
    | some (.sl id off v N, B) => if B.length ≤ 262144 ∧ c = 0 ∧ s = 8 ∧ r.length = 14 ∧ r.all Sc.one = true ∧ hasF B.length a 8 = true then some (.t [.c (.sl id (off + offW a) v 8), .c .nils, .c (.b true)]) else none
    | _ => none
  | _ => none
theorem s_fpart1_eq {p id off v N : Nat} {B : List Int} {k : Int} {a x : BitVec 64} {r : List Sc} (h : wdR H p = some (.sl id off v N, B)) (h1 : B.length ≤ 262144) (h2 : r.length = 14) (h3 : r.all Sc.one = true) (h4 : hasF B.length a 8 = true) :
    s_fpart1 [.c (.p p 0 0), .g (.i k :: .u a :: .u x :: .i 0 :: .i 8 :: r)] H = some (.t [.c (.sl id (off + offW a) v 8), .c .nils, .c (.b true)]) := by
  simp only [s_fpart1, h]; rw [if_pos ⟨h1, trivial, trivial, h2, h3, h4⟩]
set_option maxRecDepth 100000 in
set_option maxHeartbeats 2000000 in
theorem ok_fpart1 : FpOk Tryz.prog 41 (fun args H => (s_fpart1 args H).map fun v => (v, H)) := by
  refine fq_ok (s := s_fpart1) (tab := [(29, .fq s_fspot)]) hmix (TabOk.cons (e := .fq s_fspot) ok_fspot TabOk.nil) Tryz.func41 rfl Tryz.results41 Tryz.ntmps41 (by kernel_rfl) (by kernel_rfl) ?_
  intro args H v h hargs hH
  unfold s_fpart1 at h
  split at h <;> try (simp at h; done)
  rename_i p k a x c s r
  split at h <;> try (simp at h; done)
  rename_i id off v N B hx
  split at h <;> try (simp at h; done)
  rename_i hc
  obtain ⟨hB, rfl, rfl, lr, ro, hh⟩ := hc
  simp only [Option.some.injEq] at h
  subst h
  simp only [List.all_cons, AV.bel, Bool.and_eq_true] at hargs
  obtain ⟨c1, c2, c3, c4, r', ho, hcut⟩ := wdR_inv hx
  have b0 : 0 < B.length := by rw [hasF_iff] at hh; omega
  have lid := cut_lt hcut b0
  refine ⟨by simp only [List.length_cons, List.length_nil]; decide, by simp [AV.bel, Sc.bel, lid], ?_⟩
  have rt : r.take 14 = r := List.take_of_length_le (by omega)
  have sp := fun X => s_fspot_eq (H := H ++ X) (p := p) (x := .sl id off v N) (B := B) (a := a) (n := 8) (wdR_app hx b0 X) hB (by decide)
  simp only [hh, if_true] at sp
  rw [hasF_iff] at hh
  obtain ⟨_, rfl, _, _⟩ := cut_cell hcut
  have hX : ∀ X, hg (H ++ X) p = .own (.i c1 :: .i c2 :: .i c3 :: .i c4 :: .sl id off v B.length :: r') := fun X => by rw [hg_lt' (hg_lt (by rw [ho]; rfl)), ho]
  have w1 : w64 ((offW a : Int) + 8) = ((offW a + 8 : Nat) : Int) := by rw [w64_d (by omega) (by omega)]; omega
  have q1 : (0 : Int) ≤ (offW a : Int) := by omega
  have q2 : (offW a : Int) < ((offW a + 8 : Nat) : Int) := by omega
  have q3 : ((offW a + 8 : Nat) : Int) ≤ ((offW a + 8 : Nat) : Int) := Int.le_refl _
  have q4 : ((offW a + 8 : Nat) : Int) ≤ (B.length : Int) := by omega
  have q5 : offW a + 8 - offW a = 8 := Nat.add_sub_cancel_left ..
  (try simp (config := { maxSteps := 10000000 }) only [go_sem, seval, lr, ro, rt, sp, hX, w1, q1, q2, q3, q4, q5, Int.toNat_natCast]; repeat (simp (disch := omega) only [w64_d, ipos, ineg, dpos, dneg]; try simp (config := { maxSteps := 10000000 }) only [go_sem, seval, lr, ro, rt, sp, hX, w1, q1, q2, q3, q4, q5, Int.toNat_natCast]))
  exact subH_app _ _
end
end
end Go.Proofs.YtcbhelkafelofaaGreat
