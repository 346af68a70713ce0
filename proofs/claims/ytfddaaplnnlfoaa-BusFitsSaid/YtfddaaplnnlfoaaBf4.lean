/- Layer 18: the document's bus, a new one; the law BusFits. -/
import Derived.Test.YtfddaaplnnlfoaaBf3
namespace Go.Proofs.Ytfddaaplnnlfoaa
open Go.Am
set_option linter.unusedSimpArgs false
set_option linter.unusedVariables false
noncomputable section

/-! ### the document's controller, as cells -/
def rb32 (w : BitVec 32) : List Sc := (List.range 32).map fun i => .b (w.getLsbD i)
def rpT (k : Pk) : List Sc := k.p.map Sc.i ++ (rb32 k.w ++ (rb32 k.q ++ (rb32 k.s ++ (k.e.flatMap rb32 ++ k.l.map Sc.i))))
def rpk (k : Pk) : List Sc := .i k.n :: rpT k
theorem rb32_l (w : BitVec 32) : (rb32 w).length = 32 := by simp [rb32]
theorem rpT_l {k : Pk} (h : PkOk k) : (rpT k).length = 656 := by
  have : (k.e.flatMap rb32).length = 512 := by rw [fm_len rb32_l, h.e]
  simp [rpT, h.p, h.l, rb32_l, this]
theorem rb32_all {f : Sc → Bool} (hf : ∀ q, f (.b q) = true) (w : BitVec 32) : (rb32 w).all f = true := by
  unfold rb32
  rw [List.all_map]
  exact List.all_eq_true.2 fun _ _ => hf _
theorem rpT_all {f : Sc → Bool} (hf : ∀ q, f (.b q) = true) (hi : ∀ n, f (.i n) = true) (k : Pk) : (rpT k).all f = true := by
  have hm : ∀ l : List Int, (l.map Sc.i).all f = true := fun l => by rw [List.all_map]; exact List.all_eq_true.2 fun _ _ => hi _
  have he : (k.e.flatMap rb32).all f = true := by
    rw [List.all_flatMap]
    exact List.all_eq_true.2 fun w _ => rb32_all hf w
  simp only [rpT, List.all_append, hm, he, rb32_all hf, Bool.and_self]
theorem rpT_one (k : Pk) : (rpT k).all Sc.one = true := rpT_all (fun _ => rfl) (fun _ => rfl) k
theorem rpT_pf (k : Pk) : (rpT k).all Sc.pf = true := rpT_all (fun _ => rfl) (fun _ => rfl) k
theorem rpT_z (n : Int) : rpT (pkZ n) = rpT (pkZ 0) := rfl
def rp0 : List Sc := rpT (pkZ 0)
theorem rp0_l : rp0.length = 656 := rpT_l (pkZ_ok (by decide) (by decide))
theorem rp0_one : rp0.all Sc.one = true := rpT_one _
theorem rp0_pf : rp0.all Sc.pf = true := rpT_pf _
theorem rp0_t : List.take 656 rp0 = rp0 := List.take_of_length_le (by rw [rp0_l]; exact Nat.le_refl _)
theorem rp0_d : List.drop 656 rp0 = [] := List.drop_of_length_le (by rw [rp0_l]; exact Nat.le_refl _)
theorem rpk_N (n : Int) : rpk (pkN n) = .i (pkN n).n :: rp0 := by
  unfold pkN
  split <;> rfl
theorem zT_P : zT Try.prog 63 = some (.i 0 :: rp0) := by kernel_rfl
attribute [go_sem] rp0_l rp0_one rp0_t rp0_d
attribute [go_sem 2000] zT_P
def s_rnew16 (args : List AV) : Option AV :=
  match args with
  | [.c (.i n)] => some (.g (.i (pkN n).n :: rp0))
  | _ => none
theorem s_rnew16_eq {n} : s_rnew16 [.c (.i n)] = some (.g (.i (pkN n).n :: rp0)) := rfl
set_option maxRecDepth 100000 in
set_option maxHeartbeats 2000000 in
theorem ok_rnew16 : PuOk Try.prog 44 s_rnew16 := by
  refine pu_ok (tab := []) hmix TabOk.nil Try.func44 rfl Try.results44 Try.ntmps44 (by kernel_rfl) (by kernel_rfl) ?_
  intro args v h
  unfold s_rnew16 at h
  split at h
  · rename_i n
    simp only [Option.some.injEq] at h; subst h
    have pp := rp0_pf
    refine ⟨by simp only [List.length_cons, List.length_nil]; decide, by first | rfl | simp only [List.all_cons, List.all_nil, AV.pf, Sc.pf, Bool.and_true, *], by first | rfl | simp only [List.all_cons, List.all_nil, AV.pf, Sc.pf, Bool.and_true, *], ?_⟩
    by_cases c1 : n < 1
    · have e : pkN n = pkZ 0 := if_neg (by omega)
      rw [e, show (pkZ 0).n = 0 from rfl]
      (try simp (config := { maxSteps := 10000000 }) only [go_sem, seval, c1]; repeat (simp (disch := omega) only [w64_d, ipos, ineg, dpos, dneg]; try simp (config := { maxSteps := 10000000 }) only [go_sem, seval, c1]))
    by_cases c2 : 8 < n
    · have e : pkN n = pkZ 0 := if_neg (by omega)
      rw [e, show (pkZ 0).n = 0 from rfl]
      (try simp (config := { maxSteps := 10000000 }) only [go_sem, seval, c1, c2]; repeat (simp (disch := omega) only [w64_d, ipos, ineg, dpos, dneg]; try simp (config := { maxSteps := 10000000 }) only [go_sem, seval, c1, c2]))
    have e : pkN n = pkZ n := if_pos (by omega)
    rw [e, show (pkZ n).n = n from rfl]
    (try simp (config := { maxSteps := 10000000 }) only [go_sem, seval, c1, c2]; repeat (simp (disch := omega) only [w64_d, ipos, ineg, dpos, dneg]; try simp (config := { maxSteps := 10000000 }) only [go_sem, seval, c1, c2]))
  · simp at h
def s_rnew15 (args : List AV) : Option AV :=
  match args with
  | [.c (.i h)] => some (.g (ckC (ckN h)))
  | _ => none
theorem s_rnew15_eq {h} : s_rnew15 [.c (.i h)] = some (.g (ckC (ckN h))) := rfl
set_option maxRecDepth 100000 in
set_option maxHeartbeats 2000000 in
theorem ok_rnew15 : PuOk Try.prog 43 s_rnew15 := by
  refine pu_ok (tab := []) hmix TabOk.nil Try.func43 rfl Try.results43 Try.ntmps43 (by kernel_rfl) (by kernel_rfl) ?_
  intro args v h
  unfold s_rnew15 at h
  split at h
  · rename_i h
    simp only [Option.some.injEq] at h; subst h
    have pp := ckC_pf (ckN h)
    refine ⟨by simp only [List.length_cons, List.length_nil]; decide, by first | rfl | simp only [List.all_cons, List.all_nil, AV.pf, Sc.pf, Bool.and_true, *], by first | rfl | simp only [List.all_cons, List.all_nil, AV.pf, Sc.pf, Bool.and_true, *], ?_⟩
    by_cases c1 : h < 1
    · have e : ckN h = ckI 0 0 := if_neg (by omega)
      rw [e]
      (try simp (config := { maxSteps := 10000000 }) only [go_sem, seval, c1]; repeat (simp (disch := omega) only [w64_d, ipos, ineg, dpos, dneg]; try simp (config := { maxSteps := 10000000 }) only [go_sem, seval, c1]))
      rfl
    by_cases c2 : 8 < h
    · have e : ckN h = ckI 0 0 := if_neg (by omega)
      rw [e]
      (try simp (config := { maxSteps := 10000000 }) only [go_sem, seval, c1, c2]; repeat (simp (disch := omega) only [w64_d, ipos, ineg, dpos, dneg]; try simp (config := { maxSteps := 10000000 }) only [go_sem, seval, c1, c2]))
      rfl
    obtain ⟨m, rfl⟩ : ∃ m : Nat, h = (m : Int) := ⟨h.toNat, by omega⟩
    have e : ckN (m : Int) = ckI m m := by unfold ckN; rw [if_pos (by omega), Int.toNat_natCast]
    rw [e]
    (try simp (config := { maxSteps := 10000000 }) only [go_sem, seval, c1, c2]; repeat (simp (disch := omega) only [w64_d, ipos, ineg, dpos, dneg]; try simp (config := { maxSteps := 10000000 }) only [go_sem, seval, c1, c2]))
    refine arun_for m (fun i => ([(0, .c (.i m)), (2, .c (.p 0 0 0)), (3, .c (.p 1 0 0)), (4, .c (.i i))], [.own (ckC (ckI 0 0)), .own (ckC (ckI m i))])) (Wk.frq rfl (Wk.fq (by simp [Am.get]))) fun i hi => ?_
    have ll := ckC_l (ckI_ok (h := m) (by omega) (by omega) (i := i) (by omega))
    by_cases hlt : i < m
    · have w := ckI_wr (h := m) (by omega) (by omega) (i := i) (by omega)
      have e0 : (i : Int) < (m : Int) := by omega
      have e1 : w64 ((i : Int) + 1) = ((i + 1 : Nat) : Int) := by rw [w64_d (by omega) (by omega)]; omega
      (try simp (config := { maxSteps := 10000000 }) only [go_sem, seval, e0, e1, w, Int.toNat_natCast]; repeat (simp (disch := omega) only [w64_d, ipos, ineg, dpos, dneg]; try simp (config := { maxSteps := 10000000 }) only [go_sem, seval, e0, e1, w, Int.toNat_natCast]))
      exact ⟨i + 1, by omega, by omega, Wk.fq (by simp [Am.get])⟩
    · obtain rfl : i = m := by omega
      have t18 : List.take 18 (ckC (ckI i i)) = ckC (ckI i i) := List.take_of_length_le (by omega)
      have l0 : (ckC (ckI 0 0)).length = 18 := rfl
      have one := ckC_one (ckI i i)
      have dn : List.drop 18 (ckC (ckI 0 0)) = [] := rfl
      (try simp (config := { maxSteps := 10000000 }) only [go_sem, seval, t18, ll, l0, one, dn]; repeat (simp (disch := omega) only [w64_d, ipos, ineg, dpos, dneg]; try simp (config := { maxSteps := 10000000 }) only [go_sem, seval, t18, ll, l0, one, dn]))
  · simp at h
/-- the document's bus, as cells -/
def rbC (n : Int) (c : Ck) (k : Pk) (t : Pt) (u v : Sc) : List Sc := .i n :: (ckC c ++ (rpk k ++ rpC t u v))
def rb0 : List Sc := ckC (ckI 0 0) ++ (.i 0 :: (rp0 ++ rpC pt0 .nils .nils))
theorem zT_B : zT Try.prog 67 = some (.i 0 :: rb0) := by kernel_rfl
attribute [go_sem 2000] zT_B
theorem rbN_pf (n : Int) : (ckC (ckN n) ++ (.i (pkN n).n :: (rp0 ++ rpC pt0 .nils .nils))).all Sc.pf = true := by
  rw [List.all_append, List.all_cons, List.all_append, ckC_pf, rp0_pf]; rfl
theorem rbN_l (n : Int) : (ckC (ckN n) ++ (.i (pkN n).n :: (rp0 ++ rpC pt0 .nils .nils))).length = 686 := by
  rw [List.length_append, List.length_cons, List.length_append, ckC_l (ckN_ok n), rp0_l]; rfl
def s_rnew18 (args : List AV) : Option AV :=
  match args with
  | [.c (.i n)] => some (.g (.i n :: (ckC (ckN n) ++ (.i (pkN n).n :: (rp0 ++ rpC pt0 .nils .nils)))))
  | _ => none
theorem s_rnew18_eq {n} : s_rnew18 [.c (.i n)] = some (.g (.i n :: (ckC (ckN n) ++ (.i (pkN n).n :: (rp0 ++ rpC pt0 .nils .nils))))) := rfl
set_option maxRecDepth 100000 in
set_option maxHeartbeats 2000000 in
theorem ok_rnew18 : PuOk Try.prog 20 s_rnew18 := by
  refine pu_ok (tab := [(43, .pu s_rnew15), (44, .pu s_rnew16)]) hmix (TabOk.cons (e := .pu s_rnew15) ok_rnew15 (TabOk.cons (e := .pu s_rnew16) ok_rnew16 TabOk.nil)) Try.func20 rfl Try.results20 Try.ntmps20 (by kernel_rfl) (by kernel_rfl) ?_
  intro args v h
  unfold s_rnew18 at h
  split at h
  · rename_i n
    simp only [Option.some.injEq] at h; subst h
    have pp := rbN_pf n
    refine ⟨by simp only [List.length_cons, List.length_nil]; decide, by first | rfl | simp only [List.all_cons, List.all_nil, AV.pf, Sc.pf, Bool.and_true, *], by first | rfl | simp only [List.all_cons, List.all_nil, AV.pf, Sc.pf, Bool.and_true, *], ?_⟩
    have l1 := ckC_l (ckN_ok n)
    have o1 := ckC_one (ckN n)
    have l0 : (ckC (ckI 0 0)).length = 18 := rfl
    have lb : rb0.length = 686 := by unfold rb0; rw [List.length_append, List.length_cons, List.length_append, l0, rp0_l]; rfl
    have t1 : ∀ m : List Sc, List.take 18 (ckC (ckN n) ++ m) = ckC (ckN n) := fun m => List.take_left' l1
    have d1 : List.drop 18 rb0 = .i 0 :: (rp0 ++ rpC pt0 .nils .nils) := by unfold rb0; exact List.drop_left' l0
    have d2 : ∀ m : List Sc, List.drop 675 (ckC (ckN n) ++ m) = List.drop 657 m := fun m => by rw [List.drop_append, l1, List.drop_of_length_le (by omega), List.nil_append]
    have d3 : ∀ m : List Sc, List.drop 656 (rp0 ++ m) = m := fun m => List.drop_left' rp0_l
    have d4 : List.drop 686 rb0 = [] := List.drop_of_length_le (by omega)
    have lp : (rpC pt0 .nils .nils).length = 11 := rfl
    have op : (rpC pt0 .nils .nils).all Sc.one = true := rfl
    have oo : (ckC (ckN n) ++ (.i (pkN n).n :: (rp0 ++ rpC pt0 .nils .nils))).all Sc.one = true := by
      rw [List.all_append, List.all_cons, List.all_append, ckC_one, rp0_one]; rfl
    have tt : List.take 686 (ckC (ckN n) ++ (.i (pkN n).n :: (rp0 ++ rpC pt0 .nils .nils))) = ckC (ckN n) ++ (.i (pkN n).n :: (rp0 ++ rpC pt0 .nils .nils)) := List.take_of_length_le (by rw [rbN_l]; exact Nat.le_refl _)
    (try simp (config := { maxSteps := 10000000 }) only [go_sem, seval, s_rnew15_eq, s_rnew16_eq, l1, o1, lb, t1, d1, d2, d3, d4, lp, op, oo, tt]; repeat (simp (disch := omega) only [w64_d, ipos, ineg, dpos, dneg]; try simp (config := { maxSteps := 10000000 }) only [go_sem, seval, s_rnew15_eq, s_rnew16_eq, l1, o1, lb, t1, d1, d2, d3, d4, lp, op, oo, tt]))
  · simp at h
def s_rmay18 (args : List AV) : Option AV :=
  match args with
  | [.g (.i n :: m), .g (.i k :: .u a :: .u b :: .i c :: .i s :: .i op :: .u d :: .u o :: .b lv :: r)] => if (m.length = 686 ∧ m.all Sc.pf = true ∧ m.all Sc.one = true) ∧ askR r then some (.c (.b (bMy n ⟨k, a, b, c, s, op, d, o, lv, r⟩))) else none
  | _ => none
theorem s_rmay18_eq {n m k a b c s op d o lv r} : s_rmay18 [.g (.i n :: m), .g (.i k :: .u a :: .u b :: .i c :: .i s :: .i op :: .u d :: .u o :: .b lv :: r)] = if (m.length = 686 ∧ m.all Sc.pf = true ∧ m.all Sc.one = true) ∧ askR r then some (.c (.b (bMy n ⟨k, a, b, c, s, op, d, o, lv, r⟩))) else none := rfl
set_option maxRecDepth 100000 in
set_option maxHeartbeats 2000000 in
theorem ok_rmay18 : PuOk Try.prog 19 s_rmay18 := by
  refine pu_ok (tab := [(18, .pu s_rwhere)]) hmix (TabOk.cons (e := .pu s_rwhere) ok_rwhere TabOk.nil) Try.func19 rfl Try.results19 Try.ntmps19 (by kernel_rfl) (by kernel_rfl) ?_
  intro args v h
  unfold s_rmay18 at h
  split at h
  · rename_i n m k a b c s op d o lv r
    split at h
    · rename_i hc
      simp only [Option.some.injEq] at h; subst h
      obtain ⟨⟨hm1, hm2, hm3⟩, hr1, hr2, hr3⟩ := hc
      refine ⟨by simp only [List.length_cons, List.length_nil]; decide, by first | rfl | simp only [List.all_cons, List.all_nil, AV.pf, Sc.pf, Bool.and_true, *], by first | rfl | simp only [List.all_cons, List.all_nil, AV.pf, Sc.pf, Bool.and_true, *], ?_⟩
      have t1 : List.take 686 m = m := List.take_of_length_le (by omega)
      have t2 : List.take 10 r = r := List.take_of_length_le (by omega)
      have rw' := s_rwhere_eq (n := n) (a := a) (s := s)
      unfold bMy
      have bd := bSp_d (n := n) (a := a) (s := s)
      generalize (bSp n a s).d = z at *
      rcases Classical.propComplete (k = 9) with k1 | k1
      · rcases bd with rfl | rfl | rfl | rfl <;> (try simp (config := { maxSteps := 10000000 }) only [go_sem, seval, rw', k1, hm1, hm3, hr1, hr3, t1, t2]; repeat (simp (disch := omega) only [w64_d, ipos, ineg, dpos, dneg]; try simp (config := { maxSteps := 10000000 }) only [go_sem, seval, rw', k1, hm1, hm3, hr1, hr3, t1, t2]))
      rcases Classical.propComplete (k = 10) with k2 | k2
      · rcases bd with rfl | rfl | rfl | rfl <;> (try simp (config := { maxSteps := 10000000 }) only [go_sem, seval, rw', k1, k2, hm1, hm3, hr1, hr3, t1, t2]; repeat (simp (disch := omega) only [w64_d, ipos, ineg, dpos, dneg]; try simp (config := { maxSteps := 10000000 }) only [go_sem, seval, rw', k1, k2, hm1, hm3, hr1, hr3, t1, t2]))
      rcases Classical.propComplete (k = 11) with k3 | k3
      · (try simp (config := { maxSteps := 10000000 }) only [go_sem, seval, k1, k2, k3, hm1, hm3, hr1, hr3, t1, t2]; repeat (simp (disch := omega) only [w64_d, ipos, ineg, dpos, dneg]; try simp (config := { maxSteps := 10000000 }) only [go_sem, seval, k1, k2, k3, hm1, hm3, hr1, hr3, t1, t2]))
      rcases Classical.propComplete (k = 18) with k4 | k4
      · (try simp (config := { maxSteps := 10000000 }) only [go_sem, seval, k1, k2, k3, k4, hm1, hm3, hr1, hr3, t1, t2]; repeat (simp (disch := omega) only [w64_d, ipos, ineg, dpos, dneg]; try simp (config := { maxSteps := 10000000 }) only [go_sem, seval, k1, k2, k3, k4, hm1, hm3, hr1, hr3, t1, t2]))
      rcases Classical.propComplete (k = 19) with k5 | k5
      · (try simp (config := { maxSteps := 10000000 }) only [go_sem, seval, k1, k2, k3, k4, k5, hm1, hm3, hr1, hr3, t1, t2]; repeat (simp (disch := omega) only [w64_d, ipos, ineg, dpos, dneg]; try simp (config := { maxSteps := 10000000 }) only [go_sem, seval, k1, k2, k3, k4, k5, hm1, hm3, hr1, hr3, t1, t2]))
      rcases Classical.propComplete (k = 20) with k6 | k6
      all_goals (try simp (config := { maxSteps := 10000000 }) only [go_sem, seval, k1, k2, k3, k4, k5, k6, hm1, hm3, hr1, hr3, t1, t2]; repeat (simp (disch := omega) only [w64_d, ipos, ineg, dpos, dneg]; try simp (config := { maxSteps := 10000000 }) only [go_sem, seval, k1, k2, k3, k4, k5, k6, hm1, hm3, hr1, hr3, t1, t2]))
    · simp at h
  · simp at h
/-! ### two buses -/
def bSame (D E : Bd) : Bool := by
  classical
  exact decide (D.b = E.b) && sameT D.t E.t
def q_bsame (args : List AV) (H : AH) (v : AV) : Prop := (args = [.c .nilp, .c .nilp] → v = .c (.b true)) ∧ ∀ D E, args = [.c (.p D.id 0 0), .c (.p E.id 0 0)] → BI H D → BI H E → v = .c (.b (bSame D E))
def s_bsame : List AV → AH → Option AV := frQ Try.prog [(40, .fq s_usame)] 16 q_bsame
set_option maxRecDepth 100000 in
set_option maxHeartbeats 2000000 in
theorem ok_bsame : FpOk Try.prog 16 (fun args H => (s_bsame args H).map fun v => (v, H)) := frQ_ok hmix (TabOk.cons (e := .fq s_usame) ok_usame TabOk.nil) Try.func16 rfl Try.results16 Try.ntmps16 (by kernel_rfl) (by kernel_rfl)
theorem s_bsame_nil {H : AH} : s_bsame [.c .nilp, .c .nilp] H = some (.c (.b true)) := by
  have : ∃ v, s_bsame [.c .nilp, .c .nilp] H = some v ∧ q_bsame [.c .nilp, .c .nilp] H v := by
    unfold s_bsame
    apply frQ_ex (v := .c (.b true)) Try.func16 rfl Try.results16 Try.ntmps16 (by simp only [List.length_cons, List.length_nil]; decide)
    · exact fun _ _ => rfl
    · intro _ _
      (try simp (config := { maxSteps := 10000000 }) only [go_sem, seval]; repeat (simp (disch := omega) only [w64_d, ipos, ineg, dpos, dneg]; try simp (config := { maxSteps := 10000000 }) only [go_sem, seval]))
      exact subH_refl _
    · exact ⟨fun _ => rfl, fun E F he _ _ => by simp at he⟩
  obtain ⟨v, h1, h2⟩ := this
  rw [h1, h2.1 rfl]
def s_fits18 (args : List AV) : Option AV :=
  match args with
  | [.c (.i n), .c (.u a), .g (.i k :: .u a1 :: .u b :: .i c :: .i s :: .i op :: .u d :: .u o :: .b lv :: r)] => if askR r then some (.c (.b true)) else none
  | _ => none
theorem s_fits18_eq {n a k a1 b c s op d o lv r} : s_fits18 [.c (.i n), .c (.u a), .g (.i k :: .u a1 :: .u b :: .i c :: .i s :: .i op :: .u d :: .u o :: .b lv :: r)] = if askR r then some (.c (.b true)) else none := rfl
set_option maxRecDepth 100000 in
set_option maxHeartbeats 2000000 in
theorem ok_fits18 : PuOk Try.prog 4 s_fits18 := by
  refine pu_ok (tab := [(8, .fp s_bdo), (11, .fq s_bmay), (9, .fq s_blines), (12, .fq s_btime), (13, .fp s_bout), (14, .fp s_bwait), (15, .fp s_bclo), (16, .fq s_bsame), (17, .pu s_bfits), (18, .pu s_rwhere), (6, .fp s_bnew), (20, .pu s_rnew18), (19, .pu s_rmay18), (10, .pu s_live18)]) hmix (TabOk.cons (e := .fp s_bdo) ok_bdo (TabOk.cons (e := .fq s_bmay) ok_bmay (TabOk.cons (e := .fq s_blines) ok_blines (TabOk.cons (e := .fq s_btime) ok_btime (TabOk.cons (e := .fp s_bout) ok_bout (TabOk.cons (e := .fp s_bwait) ok_bwait (TabOk.cons (e := .fp s_bclo) ok_bclo (TabOk.cons (e := .fq s_bsame) ok_bsame (TabOk.cons (e := .pu s_bfits) ok_bfits (TabOk.cons (e := .pu s_rwhere) ok_rwhere (TabOk.cons (e := .fp s_bnew) ok_bnew (TabOk.cons (e := .pu s_rnew18) ok_rnew18 (TabOk.cons (e := .pu s_rmay18) ok_rmay18 (TabOk.cons (e := .pu s_live18) ok_live18 TabOk.nil)))))))))))))) Try.func4 rfl Try.results4 Try.ntmps4 (by kernel_rfl) (by kernel_rfl) ?_
  intro args v h
  unfold s_fits18 at h
  split at h
  · rename_i n a k a1 b c s op d o lv r
    split at h
    · rename_i hc
      simp only [Option.some.injEq] at h; subst h
      obtain ⟨hr1, hr2, hr3⟩ := hc
      refine ⟨by simp only [List.length_cons, List.length_nil]; decide, by first | rfl | simp only [List.all_cons, List.all_nil, AV.pf, Sc.pf, Bool.and_true, *], by first | rfl | simp only [List.all_cons, List.all_nil, AV.pf, Sc.pf, Bool.and_true, *], ?_⟩
      have hq : askR r := ⟨hr1, hr2, hr3⟩
      obtain ⟨X, e1⟩ := s_bdo_nil (H := [.own (aqC ⟨k, a1, b, c, s, op, d, o, lv, r⟩)]) (h := 0) (q := ⟨k, a1, b, c, s, op, d, o, lv, r⟩) hq
      have e2 := fun H => s_bmay_nil (H := H) (q := ⟨k, a1, b, c, s, op, d, o, lv, r⟩) hq
      have e3 := fun H => s_blines_nil (H := H) 0
      have e4 := fun H => s_btime_nil (H := H)
      have e5 := fun H => s_bout_nil (H := H)
      have e6 := fun H => s_bwait_nil (H := H)
      have e7 := fun H => s_bclo_nil (H := H)
      have e8 := fun H => s_bsame_nil (H := H)
      have t2 : List.take 10 r = r := List.take_of_length_le (by omega)
      simp only [aqC, anC] at e1 e2
      obtain ⟨K, hK⟩ : ∃ K : AH, AObj.own (.i k :: .u a1 :: .u b :: .i c :: .i s :: .i op :: .u d :: .u o :: .b lv :: r) :: (X ++ [AObj.own (.u 0#64 :: .b false :: zMl)]) = K := ⟨_, rfl⟩
      have hK0 : hg K 0 = .own (.i k :: .u a1 :: .u b :: .i c :: .i s :: .i op :: .u d :: .u o :: .b lv :: r) := by rw [← hK]; rfl
      have hKl : hg K (X.length + 1) = .own (.u 0#64 :: .b false :: zMl) := by rw [← hK, hg_succ, hg_len]; rfl
      have hKs : List.set K (X.length + 1) (.own (.u 0#64 :: .b false :: zMl)) = K := by rw [← hKl]; exact set_self rfl (hg_lt (by rw [hKl]; rfl))
      simp only [List.cons_append, List.nil_append] at e1
      (try simp (config := { maxSteps := 10000000 }) only [go_sem, seval, hr1, hr3, t2, hKl, hKs, e1, e2, e3, e4, e5, e6, e7, e8, hK, hK0]; repeat (simp (disch := omega) only [w64_d, ipos, ineg, dpos, dneg]; try simp (config := { maxSteps := 10000000 }) only [go_sem, seval, hr1, hr3, t2, hKl, hKs, e1, e2, e3, e4, e5, e6, e7, e8, hK, hK0]))
      refine arun_for 10 (fun i => ([(0, .c (.i n)), (1, .c (.u a)), (5, .c (.p 0 0 0)), (10, .c (.i i))], K)) ?_ fun i hi => ?_
      · exact Wk.fq (by simp [Am.get])
      by_cases hlt : i < 10
      · have lt : (i : Int) < 10 := by omega
        have E1 : w64 ((i : Int) + 1) = ((i + 1 : Nat) : Int) := by rw [w64_d (by omega) (by omega)]; omega
        have f1 := bf_eq (n := n) (a := a) (s := (i : Int))
        have f2 := s_rwhere_eq (n := n) (a := a) (s := (i : Int))
        have bd := bSp_d (n := n) (a := a) (s := (i : Int))
        generalize (bSp n a (i : Int)).d = z at *
        rcases bd with rfl | rfl | rfl | rfl
        all_goals (try simp (config := { maxSteps := 10000000 }) only [go_sem, seval, lt, E1, f1, f2]; repeat (simp (disch := omega) only [w64_d, ipos, ineg, dpos, dneg]; try simp (config := { maxSteps := 10000000 }) only [go_sem, seval, lt, E1, f1, f2]))
        all_goals exact ⟨i + 1, by omega, by omega, Wk.fq (by simp [Am.get])⟩
      · obtain rfl : i = 10 := by omega
        by_cases hn : 1 ≤ n ∧ n ≤ 8
        · have nb := s_bnew_ok (H := K) hn
          have g1 : ¬ n < 1 := by omega
          have g2 : ¬ 8 < n := by omega
          have nb2 := dN_bi K hn
          have my := s_bmay_eq nb2 (q := ⟨k, a1, b, c, s, op, d, o, lv, r⟩) hq
          rw [show (dN K n).id = K.length + 1 from rfl, show (dN K n).b.n = n from rfl] at my
          have hK1 : ∀ Y, hg (K ++ Y) 0 = .own (.i k :: .u a1 :: .u b :: .i c :: .i s :: .i op :: .u d :: .u o :: .b lv :: r) := fun Y => by rw [hg_app (hg_lt (by rw [hK0]; rfl)), hK0]
          have rn := s_rnew18_eq (n := n)
          have rm := s_rmay18_eq (n := n) (m := ckC (ckN n) ++ (.i (pkN n).n :: (rp0 ++ rpC pt0 .nils .nils))) (k := k) (a := a1) (b := b) (c := c) (s := s) (op := op) (d := d) (o := o) (lv := lv) (r := r)
          rw [if_pos ⟨⟨rbN_l n, rbN_pf n, by
            rw [List.all_append, List.all_cons, List.all_append, ckC_one, rp0_one]; rfl⟩, hq⟩] at rm
          simp only [aqC] at my
          generalize busC _ _ = B at *
          generalize ckC (ckN n) ++ (.i (pkN n).n :: (rp0 ++ rpC pt0 .nils .nils)) = M at *
          generalize bMy n ⟨k, a1, b, c, s, op, d, o, lv, r⟩ = z at *
          cases z
          all_goals (try simp (config := { maxSteps := 10000000 }) only [go_sem, seval, hr1, hr3, t2, nb, g1, g2, my, hK1, rn, rm, s_live18_eq]; repeat (simp (disch := omega) only [w64_d, ipos, ineg, dpos, dneg]; try simp (config := { maxSteps := 10000000 }) only [go_sem, seval, hr1, hr3, t2, nb, g1, g2, my, hK1, rn, rm, s_live18_eq]))
        · have nb := s_bnew_no (H := K) hn
          by_cases g1 : n < 1
          · (try simp (config := { maxSteps := 10000000 }) only [go_sem, seval, nb, g1, s_live18_eq]; repeat (simp (disch := omega) only [w64_d, ipos, ineg, dpos, dneg]; try simp (config := { maxSteps := 10000000 }) only [go_sem, seval, nb, g1, s_live18_eq]))
          · have g2 : 8 < n := by omega
            (try simp (config := { maxSteps := 10000000 }) only [go_sem, seval, nb, g1, g2, s_live18_eq]; repeat (simp (disch := omega) only [w64_d, ipos, ineg, dpos, dneg]; try simp (config := { maxSteps := 10000000 }) only [go_sem, seval, nb, g1, g2, s_live18_eq]))
    · simp at h
  · simp at h
theorem fit_rest {l : List Sc} (gg : L2 FitK l [.n .i64, .q, .q, .q, .n .u64, .n .i64, .n .i64, .n .u64, .n .i64, .n .u64]) : askR l := by
  obtain ⟨z0, l0, rfl, k0, g0⟩ := fit_cons gg
  obtain ⟨y0, rfl, _, _⟩ := fk_i k0
  obtain ⟨z1, l1, rfl, k1, g1⟩ := fit_cons g0
  obtain ⟨y1, rfl⟩ := fk_q k1
  obtain ⟨z2, l2, rfl, k2, g2⟩ := fit_cons g1
  obtain ⟨y2, rfl⟩ := fk_q k2
  obtain ⟨z3, l3, rfl, k3, g3⟩ := fit_cons g2
  obtain ⟨y3, rfl⟩ := fk_q k3
  obtain ⟨z4, l4, rfl, k4, g4⟩ := fit_cons g3
  obtain ⟨y4, rfl⟩ := fk_u k4
  obtain ⟨z5, l5, rfl, k5, g5⟩ := fit_cons g4
  obtain ⟨y5, rfl, _, _⟩ := fk_i k5
  obtain ⟨z6, l6, rfl, k6, g6⟩ := fit_cons g5
  obtain ⟨y6, rfl, _, _⟩ := fk_i k6
  obtain ⟨z7, l7, rfl, k7, g7⟩ := fit_cons g6
  obtain ⟨y7, rfl⟩ := fk_u k7
  obtain ⟨z8, l8, rfl, k8, g8⟩ := fit_cons g7
  obtain ⟨y8, rfl, _, _⟩ := fk_i k8
  obtain ⟨z9, l9, rfl, k9, g9⟩ := fit_cons g8
  obtain ⟨y9, rfl⟩ := fk_u k9
  obtain rfl := fit_nil g9
  exact ⟨rfl, rfl, rfl⟩
theorem sig_fits18 (avs : List AV) (H : AH) (h : SigA [.fl false [.n .i64], .fl false [.n .u64], .fl true [.n .i64, .n .u64, .n .u64, .n .i64, .n .i64, .n .i64, .n .u64, .n .u64, .q, .n .i64, .q, .q, .q, .n .u64, .n .i64, .n .i64, .n .u64, .n .i64, .n .u64]] avs H) : s_fits18 avs = some (.c (.b true)) := by
  obtain ⟨s1, r1, rfl, q1, h1⟩ := sig_c h
  obtain ⟨n, rfl, _, _⟩ := fk_i q1
  obtain ⟨s2, r2, rfl, q2, h2⟩ := sig_c h1
  obtain ⟨a, rfl⟩ := fk_u q2
  obtain ⟨l3, r3, rfl, g0, h3⟩ := sig_g h2
  obtain rfl := sig_nil h3
  obtain ⟨z0, l4, rfl, k0, g1⟩ := fit_cons g0
  obtain ⟨y0, rfl, _, _⟩ := fk_i k0
  obtain ⟨z1, l5, rfl, k1, g2⟩ := fit_cons g1
  obtain ⟨y1, rfl⟩ := fk_u k1
  obtain ⟨z2, l6, rfl, k2, g3⟩ := fit_cons g2
  obtain ⟨y2, rfl⟩ := fk_u k2
  obtain ⟨z3, l7, rfl, k3, g4⟩ := fit_cons g3
  obtain ⟨y3, rfl, _, _⟩ := fk_i k3
  obtain ⟨z4, l8, rfl, k4, g5⟩ := fit_cons g4
  obtain ⟨y4, rfl, _, _⟩ := fk_i k4
  obtain ⟨z5, l9, rfl, k5, g6⟩ := fit_cons g5
  obtain ⟨y5, rfl, _, _⟩ := fk_i k5
  obtain ⟨z6, l10, rfl, k6, g7⟩ := fit_cons g6
  obtain ⟨y6, rfl⟩ := fk_u k6
  obtain ⟨z7, l11, rfl, k7, g8⟩ := fit_cons g7
  obtain ⟨y7, rfl⟩ := fk_u k7
  obtain ⟨z8, l12, rfl, k8, g9⟩ := fit_cons g8
  obtain ⟨y8, rfl⟩ := fk_q k8
  have hr : askR l12 := fit_rest g9
  rw [s_fits18_eq, if_pos hr]
end
end Go.Proofs.Ytfddaaplnnlfoaa
