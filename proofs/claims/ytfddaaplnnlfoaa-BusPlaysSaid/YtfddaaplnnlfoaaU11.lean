/- Layer 17: the document's port: contracts. -/
import Derived.Test.YtfddaaplnnlfoaaU10
namespace Go.Proofs.Ytfddaaplnnlfoaa
open Go.Am
set_option linter.unusedSimpArgs false
set_option linter.unusedVariables false
noncomputable section

theorem halves (n : Int) (j : Nat) : n / 2 ^ j / 2 = n / 2 ^ (j + 1) := by
  rw [Int.ediv_ediv_of_nonneg (Int.pow_nonneg (by decide)), Int.pow_succ]
theorem half_rg {n : Int} (h : 0 ≤ n ∧ n ≤ 255) (j : Nat) : 0 ≤ n / 2 ^ j ∧ n / 2 ^ j ≤ 255 := by
  have p : (0 : Int) < 2 ^ j := Int.pow_pos (by decide)
  exact ⟨Int.ediv_nonneg h.1 (by omega), Int.le_trans (Int.ediv_le_self _ h.1) h.2⟩
def s_rbit (args : List AV) : Option AV :=
  match args with
  | [.c (.i n), .c (.i k)] => if 0 ≤ n ∧ n ≤ 255 ∧ 0 ≤ k ∧ k ≤ 7 then some (.c (.i (n / 2 ^ k.toNat % 2))) else none
  | _ => none
theorem s_rbit_eq {n k} : s_rbit [.c (.i n), .c (.i k)] = if 0 ≤ n ∧ n ≤ 255 ∧ 0 ≤ k ∧ k ≤ 7 then some (.c (.i (n / 2 ^ k.toNat % 2))) else none := rfl
set_option maxRecDepth 100000 in
set_option maxHeartbeats 2000000 in
theorem ok_rbit : PuOk Try.prog 78 s_rbit := by
  refine pu_ok (tab := []) hmix TabOk.nil Try.func78 rfl Try.results78 Try.ntmps78 (by kernel_rfl) (by kernel_rfl) ?_
  intro args v h
  unfold s_rbit at h
  split at h
  · rename_i n k
    split at h
    · rename_i hc
      simp only [Option.some.injEq] at h; subst h
      refine ⟨by simp only [List.length_cons, List.length_nil]; decide, rfl, rfl, ?_⟩
      obtain ⟨h1, h2, h3, h4⟩ := hc
      obtain ⟨m, rfl⟩ := Int.eq_ofNat_of_zero_le h3
      rw [Int.toNat_natCast]
      (try simp (config := { maxSteps := 10000000 }) only [go_sem, seval]; repeat (simp (disch := omega) only [w64_d, ipos, ineg, dpos, dneg]; try simp (config := { maxSteps := 10000000 }) only [go_sem, seval]))
      refine arun_for m (fun j => ([(0, .c (.i (n / 2 ^ j))), (1, .c (.i m)), (4, .c (.i 0)), (5, .c (.i j))], [])) (Wk.fr (by simp [Am.get])) fun j hj => ?_
      have e1 : w64 ((j : Int) + 1) = ((j + 1 : Nat) : Int) := by rw [w64_of (by omega)]; omega
      obtain ⟨r1, r2⟩ := half_rg ⟨h1, h2⟩ j
      have e2 : (n / 2 ^ j).tdiv 2 = n / 2 ^ (j + 1) := by rw [Int.tdiv_eq_ediv_of_nonneg r1, halves]
      obtain ⟨r3, r4⟩ := half_rg ⟨h1, h2⟩ (j + 1)
      have e3 : w64 (n / 2 ^ (j + 1)) = n / 2 ^ (j + 1) := w64_of (by omega)
      by_cases hlt : j < m
      · have hI : (j : Int) < (m : Int) := by omega
        (try simp (config := { maxSteps := 10000000 }) only [go_sem, seval, e1, e2, e3, hI]; repeat (simp (disch := omega) only [w64_d, ipos, ineg, dpos, dneg]; try simp (config := { maxSteps := 10000000 }) only [go_sem, seval, e1, e2, e3, hI]))
        exact ⟨j + 1, by omega, by omega, Wk.fr (by simp [Am.get])⟩
      · obtain rfl : j = m := by omega
        have e4 : (n / 2 ^ j).tmod 2 = n / 2 ^ j % 2 := Int.tmod_eq_emod_of_nonneg r1
        (try simp (config := { maxSteps := 10000000 }) only [go_sem, seval, e4]; repeat (simp (disch := omega) only [w64_d, ipos, ineg, dpos, dneg]; try simp (config := { maxSteps := 10000000 }) only [go_sem, seval, e4]))
    · simp at h
  · simp at h
/-- bits of a byte -/
theorem bq_tab : ∀ n : Nat, n < 256 → (decide ((n : Int) / 2 ^ 0 % 2 = 1) = decide (¬ an8 n 1 = 0)) ∧ (decide ((n : Int) / 2 ^ 1 % 2 = 1) = decide (¬ an8 n 2 = 0)) ∧ (decide ((n : Int) / 2 ^ 2 % 2 = 1) = decide (¬ an8 n 4 = 0)) ∧
    (decide ((n : Int) / 2 ^ 4 % 2 = 1) = decide (¬ an8 n 16 = 0)) ∧ (decide ((n : Int) / 2 ^ 7 % 2 = 1) = decide (¬ an8 n 128 = 0)) ∧ (decide ((n : Int) / 2 ^ 1 % 2 = 0) = decide (an8 n 2 = 0)) ∧ (n : Int) % 16 = an8 n 15 ∧ (n : Int) % 32 = an8 n 31 ∧ (decide ((n : Int) % 2 = 1) = decide (¬ an8 n 1 = 0)) ∧
    (decide ((n : Int) / 2 ^ 4 % 2 = 0) = decide (an8 n 16 = 0)) ∧
    16 * ((n : Int) / 2 ^ 1 % 2) + 32 * ((n : Int) / 2 ^ 0 % 2) + 64 * ((n : Int) / 2 ^ 2 % 2) + 128 * ((n : Int) / 2 ^ 3 % 2) = (if an8 n 16 = 0 then 16 * ((n : Int) / 2 ^ 1 % 2) + 32 * ((n : Int) / 2 ^ 0 % 2) + 64 * ((n : Int) / 2 ^ 2 % 2) + 128 * ((n : Int) / 2 ^ 3 % 2) else modemT n) := by decide +kernel
def by8 (n : Int) : Prop := 0 ≤ n ∧ n ≤ 255
instance (n : Int) : Decidable (by8 n) := inferInstanceAs (Decidable (0 ≤ n ∧ n ≤ 255))
theorem by8_nat {n : Int} (h : by8 n) : ∃ k : Nat, k < 256 ∧ n = (k : Int) := ⟨n.toNat, by unfold by8 at h; omega, by unfold by8 at h; omega⟩
theorem bq0 {n : Int} (h : by8 n) : (n / 2 ^ 0 % 2 = 1) = (¬ an8 n 1 = 0) := by
  obtain ⟨k, hk, rfl⟩ := by8_nat h; exact propext (decide_eq_decide.1 (bq_tab k hk).1)
theorem bq1 {n : Int} (h : by8 n) : (n / 2 ^ 1 % 2 = 1) = (¬ an8 n 2 = 0) := by
  obtain ⟨k, hk, rfl⟩ := by8_nat h; exact propext (decide_eq_decide.1 (bq_tab k hk).2.1)
theorem bq2 {n : Int} (h : by8 n) : (n / 2 ^ 2 % 2 = 1) = (¬ an8 n 4 = 0) := by
  obtain ⟨k, hk, rfl⟩ := by8_nat h; exact propext (decide_eq_decide.1 (bq_tab k hk).2.2.1)
theorem bq4 {n : Int} (h : by8 n) : (n / 2 ^ 4 % 2 = 1) = (¬ an8 n 16 = 0) := by
  obtain ⟨k, hk, rfl⟩ := by8_nat h; exact propext (decide_eq_decide.1 (bq_tab k hk).2.2.2.1)
theorem bq7 {n : Int} (h : by8 n) : (n / 2 ^ 7 % 2 = 1) = (¬ an8 n 128 = 0) := by
  obtain ⟨k, hk, rfl⟩ := by8_nat h; exact propext (decide_eq_decide.1 (bq_tab k hk).2.2.2.2.1)
theorem bz1 {n : Int} (h : by8 n) : (n / 2 ^ 1 % 2 = 0) = (an8 n 2 = 0) := by
  obtain ⟨k, hk, rfl⟩ := by8_nat h; exact propext (decide_eq_decide.1 (bq_tab k hk).2.2.2.2.2.1)
theorem bz4 {n : Int} (h : by8 n) : (n / 2 ^ 4 % 2 = 0) = (an8 n 16 = 0) := by
  obtain ⟨k, hk, rfl⟩ := by8_nat h; exact propext (decide_eq_decide.1 (bq_tab k hk).2.2.2.2.2.2.2.2.2.1)
theorem m16 {n : Int} (h : by8 n) : n.tmod 16 = an8 n 15 := by
  obtain ⟨k, hk, rfl⟩ := by8_nat h; rw [Int.tmod_eq_emod_of_nonneg (by omega)]; exact (bq_tab k hk).2.2.2.2.2.2.1
theorem m32 {n : Int} (h : by8 n) : n.tmod 32 = an8 n 31 := by
  obtain ⟨k, hk, rfl⟩ := by8_nat h; rw [Int.tmod_eq_emod_of_nonneg (by omega)]; exact (bq_tab k hk).2.2.2.2.2.2.2.1
theorem m2q {n : Int} (h : by8 n) : (n.tmod 2 = 1) = (¬ an8 n 1 = 0) := by
  obtain ⟨k, hk, rfl⟩ := by8_nat h; rw [Int.tmod_eq_emod_of_nonneg (by omega)]; exact propext (decide_eq_decide.1 (bq_tab k hk).2.2.2.2.2.2.2.2.1)
theorem mdm {n : Int} (h : by8 n) (h0 : ¬ an8 n 16 = 0) : 16 * (n / 2 ^ 1 % 2) + 32 * (n / 2 ^ 0 % 2) + 64 * (n / 2 ^ 2 % 2) + 128 * (n / 2 ^ 3 % 2) = modemT n := by
  obtain ⟨k, hk, rfl⟩ := by8_nat h
  have := (bq_tab k hk).2.2.2.2.2.2.2.2.2.2
  rw [if_neg h0] at this
  exact this
/-- the document's port, in cells -/
def rpC (t : Pt) (x y : Sc) : List Sc := [.i t.e, .i t.l, .i t.m, .i t.s, .i t.dl, .i t.dm, .b t.ff, .b t.lo, .b t.em, x, y]
def rpD (H : AH) : List Sc → Option (Pt × Sc × Sc)
  | [.i e, .i l, .i m, .i s, .i dl, .i dm, .b ff, .b lo, .b em, x, y] =>
    match slD 1 dc8 H x, slD 1 dc8 H y with
    | some A, some B => if by8 e ∧ by8 l ∧ by8 m ∧ by8 s ∧ by8 dl ∧ by8 dm ∧ A.length ≤ 1000000 ∧ B.length ≤ 1000000 then some (⟨e, l, m, s, dl, dm, ff, lo, em, A, B⟩, x, y) else none
    | _, _ => none
  | _ => none
structure RpOk (H : AH) (t : Pt) (x y : Sc) : Prop where
  hx : slD 1 dc8 H x = some t.A
  hy : slD 1 dc8 H y = some t.B
  e : by8 t.e
  l : by8 t.l
  m : by8 t.m
  s : by8 t.s
  dl : by8 t.dl
  dm : by8 t.dm
  la : t.A.length ≤ 1000000
  lb : t.B.length ≤ 1000000
theorem rpD_inv {H : AH} {c : List Sc} {t : Pt} {x y : Sc} (h : rpD H c = some (t, x, y)) : c = rpC t x y ∧ RpOk H t x y := by
  unfold rpD at h
  split at h
  · split at h
    · rename_i A B hA hB
      split at h
      · rename_i hc
        simp only [Option.some.injEq, Prod.mk.injEq] at h
        obtain ⟨rfl, rfl, rfl⟩ := h
        exact ⟨rfl, hA, hB, hc.1, hc.2.1, hc.2.2.1, hc.2.2.2.1, hc.2.2.2.2.1, hc.2.2.2.2.2.1, hc.2.2.2.2.2.2.1, hc.2.2.2.2.2.2.2⟩
      · simp at h
    · simp at h
  · simp at h
theorem rpD_of {H : AH} {t : Pt} {x y : Sc} (h : RpOk H t x y) : rpD H (rpC t x y) = some (t, x, y) := by
  unfold rpD rpC
  simp only [h.hx, h.hy]
  rw [if_pos ⟨h.e, h.l, h.m, h.s, h.dl, h.dm, h.la, h.lb⟩]
theorem sl_cases {H : AH} {x : Sc} {A : List Int} (h : slD 1 dc8 H x = some A) : (x = .nils ∧ A = []) ∨ ∃ i v, x = .sl i 0 v A.length ∧ v = (hg H i).row ∧ (hg H i).cells = A.flatMap enc8 := slD_inv dc8_d h
theorem sl_len {H : AH} {x : Sc} {A : List Int} (h : slD 1 dc8 H x = some A) : lenS x = some A.length := by
  rcases sl_cases h with ⟨rfl, rfl⟩ | ⟨i, v, rfl, _, _⟩ <;> rfl
theorem sl_lb {H : AH} {x : Sc} {A : List Int} (h : slD 1 dc8 H x = some A) : ∀ e, lenB (.sl e) (.c x) = some (.c (.i A.length)) := by
  intro e
  rcases sl_cases h with ⟨rfl, rfl⟩ | ⟨i, v, rfl, _, _⟩ <;> rfl
theorem sl_one {H : AH} {x : Sc} {A : List Int} (h : slD 1 dc8 H x = some A) : Sc.one x = true := by
  rcases sl_cases h with ⟨rfl, rfl⟩ | ⟨i, v, rfl, _, _⟩ <;> rfl
def s_rcause (args : List AV) (H : AH) : Option AV :=
  match args with
  | [.g c] =>
    match rpD H c with
    | some (t, _, _) => some (.c (.i (causeP t)))
    | none => none
  | _ => none
theorem s_rcause_eq {H : AH} {t : Pt} {x y : Sc} (h : RpOk H t x y) : s_rcause [.g (rpC t x y)] H = some (.c (.i (causeP t))) := by
  simp only [s_rcause, rpD_of h]
theorem cells_x {x : Sc} (h : Sc.one x = true) : (AV.c x).cells = some [x] := by cases x <;> simp_all [AV.cells, Sc.one]
set_option maxHeartbeats 4000000 in
set_option maxRecDepth 100000 in
set_option maxHeartbeats 2000000 in
theorem ok_rcause : FpOk Try.prog 55 (fun args H => (s_rcause args H).map fun v => (v, H)) := by
  refine fq_ok (s := s_rcause) (tab := [(78, .pu s_rbit)]) hmix (TabOk.cons (e := .pu s_rbit) ok_rbit TabOk.nil) Try.func55 rfl Try.results55 Try.ntmps55 (by kernel_rfl) (by kernel_rfl) ?_
  intro args H v h hargs hH
  unfold s_rcause at h
  split at h
  · rename_i c
    split at h
    · rename_i t x y hr
      obtain ⟨rfl, ok⟩ := rpD_inv hr
      simp only [Option.some.injEq] at h
      subst h
      refine ⟨by simp only [List.length_cons, List.length_nil]; decide, rfl, ?_⟩
      have b2 := bq2 ok.e
      have b0 := bq0 ok.e
      have b1 := bq1 ok.e
      have b2' : (t.e / 4 % 2 = 1) = ¬ an8 t.e 4 = 0 := b2
      have b1' : (t.e / 2 % 2 = 1) = ¬ an8 t.e 2 = 0 := b1
      have b0' : (t.e / 1 % 2 = 1) = ¬ an8 t.e 1 = 0 := b0
      have b0'' : (t.e % 2 = 1) = ¬ an8 t.e 1 = 0 := by rw [← b0', Int.ediv_one]
      have r : 0 ≤ t.e ∧ t.e ≤ 255 := ok.e
      have xl := sl_lb ok.hx
      have n2 : (2 : Int).toNat = 2 := rfl
      have n0 : (0 : Int).toNat = 0 := rfl
      have n1 : (1 : Int).toNat = 1 := rfl
      have ox := sl_one ok.hx
      have oy := sl_one ok.hy
      unfold causeP causeT poOf
      by_cases h4 : an8 t.e 4 = 0 <;> by_cases h1 : an8 t.e 1 = 0 <;> by_cases h2 : an8 t.e 2 = 0 <;> cases hlo : t.lo <;> cases hem : t.em <;> by_cases hz : 0 < t.A.length
      all_goals have hz' : (0 : Int) < (t.A.length : Int) ↔ 0 < t.A.length := by omega
      all_goals (try simp (config := { maxSteps := 10000000 }) only [go_sem, seval, rpC, s_rbit_eq, r.1, r.2, n2, n0, n1, b2, b0, b1, b2', b1', b0', b0'', h4, h1, h2, hlo, hem, hz, hz', xl, ox, oy]; repeat (simp (disch := omega) only [w64_d, ipos, ineg, dpos, dneg]; try simp (config := { maxSteps := 10000000 }) only [go_sem, seval, rpC, s_rbit_eq, r.1, r.2, n2, n0, n1, b2, b0, b1, b2', b1', b0', b0'', h4, h1, h2, hlo, hem, hz, hz', xl, ox, oy]))
      all_goals first | exact subH_app _ _ | exact ⟨by simp, subH_app _ _⟩
    · simp at h
  · simp at h
end
end Go.Proofs.Ytfddaaplnnlfoaa
