/- The law ShardMays -/
import Derived.Test.YtflcjnekmjdckaaGreatShd
import Derived.Test.YtflcjnekmjdckaaGreatShp
import Derived.Test.YtflcjnekmjdckaaGreatS67
import Derived.Test.YtflcjnekmjdckaaGreatM2
namespace Go.Proofs.YtflcjnekmjdckaaGreat
open Go.Am
set_option linter.unusedSimpArgs false
set_option linter.unusedVariables false
noncomputable section

/-! ## XShm -/
def s_sneeds (args : List AV) (H : AH) : Option (AV × AH) :=
  match args with
  | [.c x, .g (.i k :: .u a :: .u b :: .i c :: .i s :: .i op :: .u d :: .u o :: .b lv :: r)] =>
    if askR r then
      match x with
      | .nilp => some (.c .nils, H)
      | x => match shQ H x with
        | some z => if mayB z.ram.n k a b c s op = true then some (.c (.sl (H.length + 1) 0 (strL a b c s z.t).length (ddp (srt ltI (strL a b c s z.t))).length), H ++ [.dead, .vec 1 (cmpCI (srt ltI (strL a b c s z.t)))]) else some (.c .nils, H)
        | none => none
    else none
  | _ => none
theorem s_sneeds_nil {H : AH} {k : Int} {a b : BitVec 64} {c s op : Int} {d o : BitVec 64} {lv : Bool} {r : List Sc} (h : askR r) : s_sneeds [.c .nilp, .g (.i k :: .u a :: .u b :: .i c :: .i s :: .i op :: .u d :: .u o :: .b lv :: r)] H = some (.c .nils, H) := by simp only [s_sneeds, h, if_true]
theorem s_sneeds_eq {H : AH} {x : Sc} {z : ShS} {k : Int} {a b : BitVec 64} {c s op : Int} {d o : BitVec 64} {lv : Bool} {r : List Sc} (hz : ShIs H x z) (h : askR r) : s_sneeds [.c x, .g (.i k :: .u a :: .u b :: .i c :: .i s :: .i op :: .u d :: .u o :: .b lv :: r)] H = if mayB z.ram.n k a b c s op = true then some (.c (.sl (H.length + 1) 0 (strL a b c s z.t).length (ddp (srt ltI (strL a b c s z.t))).length), H ++ [.dead, .vec 1 (cmpCI (srt ltI (strL a b c s z.t)))]) else some (.c .nils, H) := by
  have hx := hz.x
  subst hx
  simp only [s_sneeds, h, if_true, shQ_of hz]
theorem len_sneeds (args : List AV) (H : AH) (v : AV) (H1 : AH) (h : s_sneeds args H = some (v, H1)) : H.length ≤ H1.length := by
  unfold s_sneeds at h
  repeat' split at h
  all_goals simp at h
  all_goals rw [← h.2]
  all_goals simp
set_option maxRecDepth 100000 in
set_option maxHeartbeats 2000000 in
theorem ok_sneeds : FpOk Tryz.prog 6 s_sneeds := by
  refine fp_ok (s := s_sneeds) (tab := [(5, .fq s_smay14), (15, .pu s_saccess), (33, .fp s_stripes)]) hmix (TabOk.cons (e := .fq s_smay14) ok_smay14 (TabOk.cons (e := .pu s_saccess) ok_saccess (TabOk.cons (e := .fp s_stripes) ok_stripes TabOk.nil))) Tryz.func6 rfl Tryz.results6 Tryz.ntmps6 (by kernel_rfl) (by kernel_rfl) len_sneeds ?_
  intro args H v H1 h hargs hH
  unfold s_sneeds at h
  split at h
  · rename_i x k a b c s op d o lv r
    split at h
    · rename_i hr
      have lr := hr.1
      have pr := hr.2.1
      have ro := hr.2.2
      have rt : r.take 10 = r := List.take_of_length_le (by omega)
      refine ⟨by simp only [List.length_cons, List.length_nil]; decide, ?_⟩
      split at h
      · simp only [Option.some.injEq, Prod.mk.injEq] at h
        obtain ⟨rfl, rfl⟩ := h
        have p1 := fun H => s_smay14_nil (H := H) (k := k) (a := a) (b := b) (c := c) (s := s) (op := op) (d := d) (o := o) (lv := lv) hr
        (try simp (config := { maxSteps := 10000000 }) only [go_sem, seval, lr, ro, rt, p1]; repeat (simp (disch := omega) only [w64_d, ipos, ineg, dpos, dneg]; try simp (config := { maxSteps := 10000000 }) only [go_sem, seval, lr, ro, rt, p1]))
        exact fin_fp rfl (subH_app _ _) hH (Nat.le_refl _)
      · split at h
        · rename_i z hz
          have hS := shQ_inv hz
          have lid := hS.lid
          have oX := fun X => (hS.app X).o
          have p1 := fun X => s_smay14_eq (k := k) (a := a) (b := b) (c := c) (s := s) (op := op) (d := d) (o := o) (lv := lv) (hS.app X) hr
          have t1 := hS.t1
          have hx := hS.x
          subst hx
          have i1 : inR z.t := ⟨by omega, by omega⟩
          cases hm : mayB z.ram.n k a b c s op
          · rw [hm, if_neg (by decide)] at h
            simp only [Option.some.injEq, Prod.mk.injEq] at h
            obtain ⟨rfl, rfl⟩ := h
            (try simp (config := { maxSteps := 10000000 }) only [go_sem, seval, s_smay14_eq, s_saccess_eq, s_stripes_eq, lr, pr, ro, rt, p1, hm]; repeat (simp (disch := omega) only [w64_d, ipos, ineg, dpos, dneg]; try simp (config := { maxSteps := 10000000 }) only [go_sem, seval, s_smay14_eq, s_saccess_eq, s_stripes_eq, lr, pr, ro, rt, p1, hm]))
            exact fin_fp rfl (subH_app _ _) hH (Nat.le_refl _)
          · rw [hm, if_pos rfl] at h
            simp only [Option.some.injEq, Prod.mk.injEq] at h
            obtain ⟨rfl, rfl⟩ := h
            have sm := (may_all hm).1
            have q := fun H => s_stripes_eq (a := a) (b := b) (c := c) (s := s) (st := z.t) (H := H) i1
            simp only [sm, if_true] at q
            (try simp (config := { maxSteps := 10000000 }) only [go_sem, seval, s_smay14_eq, s_saccess_eq, s_stripes_eq, lr, pr, ro, rt, p1, hm, oX, shC, q]; repeat (simp (disch := omega) only [w64_d, ipos, ineg, dpos, dneg]; try simp (config := { maxSteps := 10000000 }) only [go_sem, seval, s_smay14_eq, s_saccess_eq, s_stripes_eq, lr, pr, ro, rt, p1, hm, oX, shC, q]))
            have bb : belH (H ++ [.dead, .vec 1 (cmpCI (srt ltI (strL a b c s z.t)))]) = true := belH_app hH (by simp only [List.mem_cons, List.not_mem_nil, or_false, forall_eq_or_imp, forall_eq]; exact ⟨rfl, cmpCI_bel⟩)
            exact fin_fp (by simp [AV.bel, Sc.bel]) (subH_pre _ ⟨.inl rfl, .inr rfl, trivial⟩) bb (by simp)
        · simp at h
    · simp at h
  · simp at h
def s_sram (args : List AV) (H : AH) : Option AV :=
  match args with
  | [.c .nilp] => some (.c .nilp)
  | [.c x] => (shQ H x).map fun z => .c (.p z.ram.id 0 0)
  | _ => none
theorem s_sram_nil {H : AH} : s_sram [.c .nilp] H = some (.c .nilp) := rfl
theorem s_sram_eq {H : AH} {x : Sc} {z : ShS} (hz : ShIs H x z) : s_sram [.c x] H = some (.c (.p z.ram.id 0 0)) := by
  have hx := hz.x
  subst hx
  simp only [s_sram, shQ_of hz, Option.map_some]
set_option maxRecDepth 100000 in
set_option maxHeartbeats 2000000 in
theorem ok_sram : FpOk Tryz.prog 7 (fun args H => (s_sram args H).map fun v => (v, H)) := by
  refine fq_ok (s := s_sram) (tab := []) hmix TabOk.nil Tryz.func7 rfl Tryz.results7 Tryz.ntmps7 (by kernel_rfl) (by kernel_rfl) ?_
  intro args H v h hargs hH
  unfold s_sram at h
  split at h
  · simp only [Option.some.injEq] at h
    subst h
    refine ⟨by simp only [List.length_cons, List.length_nil]; decide, rfl, ?_⟩
    (try simp (config := { maxSteps := 10000000 }) only [go_sem, seval]; repeat (simp (disch := omega) only [w64_d, ipos, ineg, dpos, dneg]; try simp (config := { maxSteps := 10000000 }) only [go_sem, seval]))
    exact subH_refl _
  · rename_i x hx
    rw [Option.map_eq_some_iff] at h
    obtain ⟨z, hz, rfl⟩ := h
    have hS := shQ_inv hz
    refine ⟨by simp only [List.length_cons, List.length_nil]; decide, by simp only [AV.bel, Sc.bel, decide_eq_true_eq]; exact hS.r.lid, ?_⟩
    obtain ⟨rfl, ho, -⟩ := hS
    (try simp (config := { maxSteps := 10000000 }) only [go_sem, seval, ho, shC]; repeat (simp (disch := omega) only [w64_d, ipos, ineg, dpos, dneg]; try simp (config := { maxSteps := 10000000 }) only [go_sem, seval, ho, shC]))
    exact subH_refl _
  · simp at h
def s_scloneN (args : List AV) : Option AV :=
  match args with
  | [.c .nilp] => some (.c .nilp)
  | _ => none
theorem s_scloneN_eq : s_scloneN [.c .nilp] = some (.c .nilp) := rfl
set_option maxRecDepth 100000 in
set_option maxHeartbeats 2000000 in
theorem ok_scloneN : PuOk Tryz.prog 8 s_scloneN := by
  refine pu_ok (tab := []) hmix TabOk.nil Tryz.func8 rfl Tryz.results8 Tryz.ntmps8 (by kernel_rfl) (by kernel_rfl) ?_
  intro args v h
  unfold s_scloneN at h
  split at h
  · simp only [Option.some.injEq] at h; subst h
    refine ⟨by simp only [List.length_cons, List.length_nil]; decide, rfl, rfl, ?_⟩
    (try simp (config := { maxSteps := 10000000 }) only [go_sem, seval]; repeat (simp (disch := omega) only [w64_d, ipos, ineg, dpos, dneg]; try simp (config := { maxSteps := 10000000 }) only [go_sem, seval]))
  · simp at h
def s_sconf (args : List AV) (H : AH) : Option AV :=
  match args with
  | [.c .nilp] => some (.g [.i 0, .i 0, .i 0, .i 0])
  | [.c x] => (shQ H x).map fun z => .g [.i z.h, .i z.t, .i z.ram.n, .i z.b]
  | _ => none
theorem s_sconf_nil {H : AH} : s_sconf [.c .nilp] H = some (.g [.i 0, .i 0, .i 0, .i 0]) := rfl
theorem s_sconf_eq {H : AH} {x : Sc} {z : ShS} (hz : ShIs H x z) : s_sconf [.c x] H = some (.g [.i z.h, .i z.t, .i z.ram.n, .i z.b]) := by
  have hx := hz.x
  subst hx
  simp only [s_sconf, shQ_of hz, Option.map_some]
set_option maxRecDepth 100000 in
set_option maxHeartbeats 2000000 in
theorem ok_sconf : FpOk Tryz.prog 9 (fun args H => (s_sconf args H).map fun v => (v, H)) := by
  refine fq_ok (s := s_sconf) (tab := []) hmix TabOk.nil Tryz.func9 rfl Tryz.results9 Tryz.ntmps9 (by kernel_rfl) (by kernel_rfl) ?_
  intro args H v h hargs hH
  unfold s_sconf at h
  split at h
  · simp only [Option.some.injEq] at h
    subst h
    refine ⟨by simp only [List.length_cons, List.length_nil]; decide, rfl, ?_⟩
    (try simp (config := { maxSteps := 10000000 }) only [go_sem, seval]; repeat (simp (disch := omega) only [w64_d, ipos, ineg, dpos, dneg]; try simp (config := { maxSteps := 10000000 }) only [go_sem, seval]))
    exact subH_app _ _
  · rename_i x hx
    rw [Option.map_eq_some_iff] at h
    obtain ⟨z, hz, rfl⟩ := h
    have hS := shQ_inv hz
    refine ⟨by simp only [List.length_cons, List.length_nil]; decide, rfl, ?_⟩
    have oX := fun X => (hS.app X).o
    obtain ⟨rfl, ho, -⟩ := hS
    (try simp (config := { maxSteps := 10000000 }) only [go_sem, seval, oX, shC]; repeat (simp (disch := omega) only [w64_d, ipos, ineg, dpos, dneg]; try simp (config := { maxSteps := 10000000 }) only [go_sem, seval, oX, shC]))
    exact subH_app _ _
  · simp at h
def s_rright14 (args : List AV) : Option AV :=
  match args with
  | [.g [.i h, .i t, .i n, .i b]] => some (.c (.b (rightB14 h t n b)))
  | _ => none
theorem s_rright14_eq {h t n b} : s_rright14 [.g [.i h, .i t, .i n, .i b]] = some (.c (.b (rightB14 h t n b))) := rfl
set_option maxRecDepth 100000 in
set_option maxHeartbeats 2000000 in
theorem ok_rright14 : PuOk Tryz.prog 12 s_rright14 := by
  refine pu_ok (tab := []) hmix TabOk.nil Tryz.func12 rfl Tryz.results12 Tryz.ntmps12 (by kernel_rfl) (by kernel_rfl) ?_
  intro args v h
  unfold s_rright14 at h
  split at h
  · rename_i h t n b
    simp only [Option.some.injEq] at h; subst h
    refine ⟨by simp only [List.length_cons, List.length_nil]; decide, rfl, rfl, ?_⟩
    have w1 : ∀ x m : Int, wiI x m = (decide (0 < x) && decide (x < m + 1)) := fun x m => by
      unfold wiI
      congr 1 <;> exact decide_eq_decide.2 (by omega)
    have e : rightB14 h t n b = ((decide (0 < h) && decide (h < 9)) && ((decide (0 < t) && decide (t < 65)) && ((decide (0 < n) && decide (n < 4097)) && (decide (0 < b) && decide (b < 33))))) := by unfold rightB14; rw [w1, w1, w1, w1]; rfl
    rw [e]
    by_cases h1 : 0 < h
    all_goals by_cases h2 : h < 9
    all_goals by_cases h3 : 0 < t
    all_goals by_cases h4 : t < 65
    all_goals by_cases h5 : 0 < n
    all_goals by_cases h6 : n < 4097
    all_goals by_cases h7 : 0 < b
    all_goals (try simp (config := { maxSteps := 10000000 }) only [go_sem, seval, h1, h2, h3, h4, h5, h6, h7]; repeat (simp (disch := omega) only [w64_d, ipos, ineg, dpos, dneg]; try simp (config := { maxSteps := 10000000 }) only [go_sem, seval, h1, h2, h3, h4, h5, h6, h7]))
  · simp at h
/-! ### the reference's memory -/
def zTb : List Sc := (List.replicate 8 (Sc.b false)) ++ (List.replicate 8 (Sc.u 0#64))
def s_r14new (args : List AV) (H : AH) : Option (AV × AH) :=
  match args with
  | [.g [.i h, .i t, .i n, .i b]] => if 1 ≤ n ∧ n ≤ 4096 then some (.g (.i h :: .i t :: .i n :: .i b :: .sl (H.length + 3) 0 (64 * n.toNat) (64 * n.toNat) :: zTb), H ++ [.dead, .dead, .dead, .vec 1 (List.replicate (64 * n.toNat) (.k .u8 0))]) else none
  | _ => none
theorem len_r14new (args : List AV) (H : AH) (v : AV) (H1 : AH) (h : s_r14new args H = some (v, H1)) : H.length ≤ H1.length := by
  unfold s_r14new at h
  repeat' split at h
  all_goals simp at h
  rw [← h.2]
  simp
def s_r10new (args : List AV) (H : AH) : Option (AV × AH) :=
  match args with
  | [.c (.i n)] => if 1 ≤ n ∧ n ≤ 4096 then some (.g [.sl (H.length + 1) 0 (64 * n.toNat) (64 * n.toNat)], H ++ [.dead, .vec 1 (List.replicate (64 * n.toNat) (.k .u8 0))]) else none
  | _ => none
theorem s_r10new_eq {H : AH} {n : Int} (h : 1 ≤ n ∧ n ≤ 4096) : s_r10new [.c (.i n)] H = some (.g [.sl (H.length + 1) 0 (64 * n.toNat) (64 * n.toNat)], H ++ [.dead, .vec 1 (List.replicate (64 * n.toNat) (.k .u8 0))]) := by simp only [s_r10new]; rw [if_pos h]
theorem len_r10new (args : List AV) (H : AH) (v : AV) (H1 : AH) (h : s_r10new args H = some (v, H1)) : H.length ≤ H1.length := by
  unfold s_r10new at h
  repeat' split at h
  all_goals simp at h
  rw [← h.2]
  simp
theorem rep_flat {n : Nat} {s : Sc} : (List.replicate n [s]).flatten = List.replicate n s := by
  induction n with
  | zero => rfl
  | succ n ih => rw [List.replicate_succ, List.flatten_cons, ih, List.replicate_succ]; rfl
theorem rep_bel {n m : Nat} {s : Sc} (h : s.num = true) : (List.replicate n s).all (Sc.bel m) = true := by rw [List.all_eq_true]; intro x hx; rw [List.eq_of_mem_replicate hx]; exact Sc.num_bel h m
set_option maxRecDepth 100000 in
set_option maxHeartbeats 2000000 in
theorem ok_r10new : FpOk Tryz.prog 38 s_r10new := by
  refine fp_ok (s := s_r10new) (tab := []) hmix TabOk.nil Tryz.func38 rfl Tryz.results38 Tryz.ntmps38 (by kernel_rfl) (by kernel_rfl) len_r10new ?_
  intro args H v H1 h hargs hH
  unfold s_r10new at h
  split at h
  · rename_i n
    split at h
    · rename_i hn
      simp only [Option.some.injEq, Prod.mk.injEq] at h
      obtain ⟨rfl, rfl⟩ := h
      refine ⟨by simp only [List.length_cons, List.length_nil]; decide, ?_⟩
      obtain ⟨m, rfl⟩ := Int.eq_ofNat_of_zero_le (show 0 ≤ n by omega)
      have e1 : w64 (64 * (m : Int)) = ((64 * m : Nat) : Int) := by rw [w64_d (by omega) (by omega)]; omega
      have e2 : ((64 * m : Nat) : Int) ≤ 1048576 := by omega
      have e3 : (0 : Int) ≤ ((64 * m : Nat) : Int) := by omega
      have bb : belH (H ++ [.dead, .vec 1 (List.replicate (64 * m) (.k .u8 0))]) = true := belH_app hH (by simp only [List.mem_cons, List.not_mem_nil, or_false, forall_eq_or_imp, forall_eq]; exact ⟨rfl, rep_bel rfl⟩)
      (try simp (config := { maxSteps := 10000000 }) only [go_sem, seval, e1, e2, e3, rep_flat, Int.toNat_natCast]; repeat (simp (disch := omega) only [w64_d, ipos, ineg, dpos, dneg]; try simp (config := { maxSteps := 10000000 }) only [go_sem, seval, e1, e2, e3, rep_flat, Int.toNat_natCast]))
      exact fin_fp (by simp [AV.bel, Sc.bel]) (subH_pre _ ⟨.inl rfl, .inr rfl, trivial⟩) bb (by simp)
    · simp at h
  · simp at h
theorem s_r14new_eq {H : AH} {h t n b : Int} (hn : 1 ≤ n ∧ n ≤ 4096) : s_r14new [.g [.i h, .i t, .i n, .i b]] H = some (.g (.i h :: .i t :: .i n :: .i b :: .sl (H.length + 3) 0 (64 * n.toNat) (64 * n.toNat) :: zTb), H ++ [.dead, .dead, .dead, .vec 1 (List.replicate (64 * n.toNat) (.k .u8 0))]) := by simp only [s_r14new]; rw [if_pos hn]
set_option maxRecDepth 100000 in
set_option maxHeartbeats 2000000 in
theorem ok_r14new : FpOk Tryz.prog 18 s_r14new := by
  refine fp_ok (s := s_r14new) (tab := [(38, .fp s_r10new)]) hmix (TabOk.cons (e := .fp s_r10new) ok_r10new TabOk.nil) Tryz.func18 rfl Tryz.results18 Tryz.ntmps18 (by kernel_rfl) (by kernel_rfl) len_r14new ?_
  intro args H v H1 h hargs hH
  unfold s_r14new at h
  split at h
  · rename_i h0 t n b
    split at h
    · rename_i hn
      simp only [Option.some.injEq, Prod.mk.injEq] at h
      obtain ⟨rfl, rfl⟩ := h
      refine ⟨by simp only [List.length_cons, List.length_nil]; decide, ?_⟩
      have q := fun H => s_r10new_eq (H := H) hn
      have bb : belH (H ++ [.dead, .dead, .dead, .vec 1 (List.replicate (64 * n.toNat) (.k .u8 0))]) = true := belH_app hH (by simp only [List.mem_cons, List.not_mem_nil, or_false, forall_eq_or_imp, forall_eq]; exact ⟨rfl, rfl, rfl, rep_bel rfl⟩)
      (try simp (config := { maxSteps := 10000000 }) only [go_sem, seval, q]; repeat (simp (disch := omega) only [w64_d, ipos, ineg, dpos, dneg]; try simp (config := { maxSteps := 10000000 }) only [go_sem, seval, q]))
      exact ⟨by repeat' first | apply And.intro | (intro _; kernel_rfl) | kernel_rfl, fin_fp (v := .g (.i h0 :: .i t :: .i n :: .i b :: .sl (H.length + 3) 0 (64 * n.toNat) (64 * n.toNat) :: zTb)) (by simp only [AV.bel, List.all_cons, Sc.bel]; simp [zTb, Sc.bel]) (subH_pre _ ⟨.inl rfl, .inl rfl, .inl rfl, .inr rfl, trivial⟩) bb (by simp)⟩
    · simp at h
  · simp at h
def rszA (k op : Int) : Int := if k = 2 ∨ k = 3 then 0 else if szA k op = 0 then -1 else szA k op
theorem szp14 {op : Int} (h : 67 ≤ op ∧ op ≤ 88) : sizeI op = 4 ∨ sizeI op = 8 := by
  obtain ⟨k, rfl⟩ := Int.eq_ofNat_of_zero_le (show 0 ≤ op by omega)
  have : ∀ k : Nat, k < 89 → 67 ≤ k → (sizeI k = 4 ∨ sizeI k = 8) := by decide +kernel
  exact this k (by omega) (by omega)
theorem link_in {op : Int} (h : linkB op = true) : 67 ≤ op ∧ op ≤ 88 := by
  unfold linkB at h
  repeat' split at h
  all_goals simp at h
  all_goals omega
theorem cond_in {op : Int} (h : condB op = true) : 67 ≤ op ∧ op ≤ 88 := by
  unfold condB at h
  repeat' split at h
  all_goals simp at h
  all_goals omega
theorem isA_in {op : Int} (h : isAB op = true) : 67 ≤ op ∧ op ≤ 88 := by rw [isA_eq] at h; omega
def s_rsize14 (args : List AV) : Option AV :=
  match args with
  | [.g (.i k :: .u a :: .u b :: .i c :: .i s :: .i op :: .u d :: .u o :: .b lv :: r)] => if r.length = 10 ∧ r.all Sc.pf = true ∧ r.all Sc.one = true then some (.c (.i (rszA k op))) else none
  | _ => none
theorem s_rsize14_eq {k a b c s op d o lv r} : s_rsize14 [.g (.i k :: .u a :: .u b :: .i c :: .i s :: .i op :: .u d :: .u o :: .b lv :: r)] = if r.length = 10 ∧ r.all Sc.pf = true ∧ r.all Sc.one = true then some (.c (.i (rszA k op))) else none := rfl
set_option maxRecDepth 100000 in
set_option maxHeartbeats 2000000 in
theorem ok_rsize14 : PuOk Tryz.prog 39 s_rsize14 := by
  refine pu_ok (tab := [(66, .pu s_ris8), (67, .pu s_rksize)]) hmix (TabOk.cons (e := .pu s_ris8) ok_ris8 (TabOk.cons (e := .pu s_rksize) ok_rksize TabOk.nil)) Tryz.func39 rfl Tryz.results39 Tryz.ntmps39 (by kernel_rfl) (by kernel_rfl) ?_
  intro args v h
  unfold s_rsize14 at h
  split at h
  · rename_i k a b c s op d o lv r
    split at h
    · rename_i hc
      simp only [Option.some.injEq] at h; subst h
      have pr := hc.2.1
      have lr := hc.1
      refine ⟨by simp only [List.length_cons, List.length_nil]; decide, by first | rfl | simp only [List.all_cons, List.all_nil, AV.pf, Sc.pf, Bool.and_true, *], by first | rfl | simp only [List.all_cons, List.all_nil, AV.pf, Sc.pf, Bool.and_true, *], ?_⟩
      have rt : r.take 10 = r := List.take_of_length_le (by omega)
      have ro := hc.2.2
      by_cases h2 : k = 2
      · subst h2
        (try simp (config := { maxSteps := 10000000 }) only [go_sem, seval, lr, rszA]; repeat (simp (disch := omega) only [w64_d, ipos, ineg, dpos, dneg]; try simp (config := { maxSteps := 10000000 }) only [go_sem, seval, lr, rszA]))
      by_cases h3 : k = 3
      · subst h3
        (try simp (config := { maxSteps := 10000000 }) only [go_sem, seval, lr, rszA]; repeat (simp (disch := omega) only [w64_d, ipos, ineg, dpos, dneg]; try simp (config := { maxSteps := 10000000 }) only [go_sem, seval, lr, rszA]))
      have e : rszA k op = if szA k op = 0 then -1 else szA k op := by unfold rszA; rw [if_neg (by omega)]
      rw [e]
      by_cases h1 : k = 1
      · subst h1
        (try simp (config := { maxSteps := 10000000 }) only [go_sem, seval, lr, szA]; repeat (simp (disch := omega) only [w64_d, ipos, ineg, dpos, dneg]; try simp (config := { maxSteps := 10000000 }) only [go_sem, seval, lr, szA]))
      by_cases h7 : k = 7
      · subst h7
        (try simp (config := { maxSteps := 10000000 }) only [go_sem, seval, lr, szA]; repeat (simp (disch := omega) only [w64_d, ipos, ineg, dpos, dneg]; try simp (config := { maxSteps := 10000000 }) only [go_sem, seval, lr, szA]))
      by_cases h8 : k = 8
      · subst h8
        (try simp (config := { maxSteps := 10000000 }) only [go_sem, seval, lr, szA]; repeat (simp (disch := omega) only [w64_d, ipos, ineg, dpos, dneg]; try simp (config := { maxSteps := 10000000 }) only [go_sem, seval, lr, szA]))
      by_cases h4 : k = 4
      · subst h4
        have i1 : (isI op = 1) = (isAB op = true) := isI_1
        cases hb : isAB op
        · (try simp (config := { maxSteps := 10000000 }) only [go_sem, seval, s_ris8_eq, s_rksize_eq, lr, szA, i1, hb]; repeat (simp (disch := omega) only [w64_d, ipos, ineg, dpos, dneg]; try simp (config := { maxSteps := 10000000 }) only [go_sem, seval, s_ris8_eq, s_rksize_eq, lr, szA, i1, hb]))
        · have z := szp14 (isA_in hb)
          have z0 : ¬ sizeI op = 0 := by omega
          (try simp (config := { maxSteps := 10000000 }) only [go_sem, seval, s_ris8_eq, s_rksize_eq, lr, szA, i1, hb, z0]; repeat (simp (disch := omega) only [w64_d, ipos, ineg, dpos, dneg]; try simp (config := { maxSteps := 10000000 }) only [go_sem, seval, s_ris8_eq, s_rksize_eq, lr, szA, i1, hb, z0]))
      by_cases h5 : k = 5
      · subst h5
        have i1 : (isI op = 2) = (linkB op = true) := isI_2
        cases hb : linkB op
        · (try simp (config := { maxSteps := 10000000 }) only [go_sem, seval, s_ris8_eq, s_rksize_eq, lr, szA, i1, hb]; repeat (simp (disch := omega) only [w64_d, ipos, ineg, dpos, dneg]; try simp (config := { maxSteps := 10000000 }) only [go_sem, seval, s_ris8_eq, s_rksize_eq, lr, szA, i1, hb]))
        · have z := szp14 (link_in hb)
          have z0 : ¬ sizeI op = 0 := by omega
          (try simp (config := { maxSteps := 10000000 }) only [go_sem, seval, s_ris8_eq, s_rksize_eq, lr, szA, i1, hb, z0]; repeat (simp (disch := omega) only [w64_d, ipos, ineg, dpos, dneg]; try simp (config := { maxSteps := 10000000 }) only [go_sem, seval, s_ris8_eq, s_rksize_eq, lr, szA, i1, hb, z0]))
      by_cases h6 : k = 6
      · subst h6
        have i1 : (isI op = 3) = (condB op = true) := isI_3
        cases hb : condB op
        · (try simp (config := { maxSteps := 10000000 }) only [go_sem, seval, s_ris8_eq, s_rksize_eq, lr, szA, i1, hb]; repeat (simp (disch := omega) only [w64_d, ipos, ineg, dpos, dneg]; try simp (config := { maxSteps := 10000000 }) only [go_sem, seval, s_ris8_eq, s_rksize_eq, lr, szA, i1, hb]))
        · have z := szp14 (cond_in hb)
          have z0 : ¬ sizeI op = 0 := by omega
          (try simp (config := { maxSteps := 10000000 }) only [go_sem, seval, s_ris8_eq, s_rksize_eq, lr, szA, i1, hb, z0]; repeat (simp (disch := omega) only [w64_d, ipos, ineg, dpos, dneg]; try simp (config := { maxSteps := 10000000 }) only [go_sem, seval, s_ris8_eq, s_rksize_eq, lr, szA, i1, hb, z0]))
      · have z : szA k op = 0 := by unfold szA; rw [if_neg h1, if_neg h7, if_neg h8, if_neg h4, if_neg h5, if_neg h6]
        (try simp (config := { maxSteps := 10000000 }) only [go_sem, seval, lr, z, h1, h2, h3, h4, h5, h6, h7, h8]; repeat (simp (disch := omega) only [w64_d, ipos, ineg, dpos, dneg]; try simp (config := { maxSteps := 10000000 }) only [go_sem, seval, lr, z, h1, h2, h3, h4, h5, h6, h7, h8]))
    · simp at h
  · simp at h
/-- bytes that are there, told by how many there are -/
def hasM (N : Nat) (x : BitVec 64) (n : Int) : Bool := decide (1 ≤ n) && (decide (2147483648 ≤ x.toNat) && (decide (offN x < N) && decide (n ≤ ((N - offN x : Nat) : Int))))
theorem hasM_B {n : Nat} {x : BitVec 64} {m : Int} : hasM (64 * n) x m = hasB n x m := rfl
def s_rhasb (args : List AV) (H : AH) : Option AV :=
  match args with
  | [.g [.sl id off v N], .c (.u a), .c (.i n)] => if N ≤ 262144 ∧ inR n then some (.c (.b (hasM N a n))) else none
  | _ => none
theorem s_rhasb_eq {H : AH} {id off v N : Nat} {a : BitVec 64} {n : Int} (h : N ≤ 262144 ∧ inR n) : s_rhasb [.g [.sl id off v N], .c (.u a), .c (.i n)] H = some (.c (.b (hasM N a n))) := by simp only [s_rhasb]; rw [if_pos h]
set_option maxRecDepth 100000 in
set_option maxHeartbeats 2000000 in
theorem ok_rhasb : FpOk Tryz.prog 40 (fun args H => (s_rhasb args H).map fun v => (v, H)) := by
  refine fq_ok (s := s_rhasb) (tab := []) hmix TabOk.nil Tryz.func40 rfl Tryz.results40 Tryz.ntmps40 (by kernel_rfl) (by kernel_rfl) ?_
  intro args H v h hargs hH
  unfold s_rhasb at h
  split at h
  · rename_i id off v N a n
    split at h
    · rename_i hn
      obtain ⟨hN, i1, i2⟩ := hn
      simp only [Option.some.injEq] at h
      subst h
      refine ⟨by simp only [List.length_cons, List.length_nil]; decide, rfl, ?_⟩
      by_cases h1 : n < 1
      · have e : hasM N a n = false := by unfold hasM; rw [decide_eq_false (by omega)]; rfl
        (try simp (config := { maxSteps := 10000000 }) only [go_sem, seval, h1, e]; repeat (simp (disch := omega) only [w64_d, ipos, ineg, dpos, dneg]; try simp (config := { maxSteps := 10000000 }) only [go_sem, seval, h1, e]))
        exact subH_app _ _
      have eb : (a < 2147483648#64) = (a.toNat < 2147483648) := by rw [BitVec.lt_def]; rfl
      by_cases h2 : a.toNat < 2147483648
      · have e : hasM N a n = false := by unfold hasM; rw [decide_eq_false (show ¬ 2147483648 ≤ a.toNat by omega)]; simp
        (try simp (config := { maxSteps := 10000000 }) only [go_sem, seval, h1, eb, h2, e]; repeat (simp (disch := omega) only [w64_d, ipos, ineg, dpos, dneg]; try simp (config := { maxSteps := 10000000 }) only [go_sem, seval, h1, eb, h2, e]))
        exact subH_app _ _
      have h3 := base_nat (a := a) (by omega)
      have e0 : (BitVec.ofInt 64 (N : Int)).toNat = N := ofI_nat (by omega)
      have e1 : (BitVec.ofInt 64 (N : Int) ≤ a - 2147483648#64) = (N ≤ offN a) := by rw [BitVec.le_def, h3, e0]
      by_cases h4 : N ≤ offN a
      · have e : hasM N a n = false := by unfold hasM; rw [decide_eq_false (show ¬ offN a < N by omega)]; simp
        (try simp (config := { maxSteps := 10000000 }) only [go_sem, seval, h1, eb, h2, e1, h4, e]; repeat (simp (disch := omega) only [w64_d, ipos, ineg, dpos, dneg]; try simp (config := { maxSteps := 10000000 }) only [go_sem, seval, h1, eb, h2, e1, h4, e]))
        exact subH_app _ _
      · have e2 : (a - 2147483648#64).toInt = (offN a : Int) := by rw [BitVec.toInt_eq_toNat_cond, h3, if_pos (by omega)]
        have e3 : w64 ((N : Int) - (offN a : Int)) = ((N - offN a : Nat) : Int) := by rw [w64_d (by omega) (by omega)]; omega
        have e : hasM N a n = decide (n ≤ ((N - offN a : Nat) : Int)) := by unfold hasM; rw [decide_eq_true (by omega), decide_eq_true (by omega), decide_eq_true (show offN a < N by omega)]; simp
        (try simp (config := { maxSteps := 10000000 }) only [go_sem, seval, h1, eb, h2, e1, h4, e2, e3, e]; repeat (simp (disch := omega) only [w64_d, ipos, ineg, dpos, dneg]; try simp (config := { maxSteps := 10000000 }) only [go_sem, seval, h1, eb, h2, e1, h4, e2, e3, e]))
        exact subH_app _ _
    · simp at h
  · simp at h
theorem pc_bytes {n : Nat} (hn : n ≤ 4096) {p : Pc} (h1 : 1 ≤ p.n) (h8 : p.n ≤ 8) (hl : ∀ j : Int, 0 ≤ j → j < p.n → (p.a + BitVec.ofInt 64 j) / 64#64 = p.a / 64#64) : hasB n p.a p.n = true ↔ ∀ j : Int, 0 ≤ j → j < p.n → hasM (64 * n) (p.a + BitVec.ofInt 64 j) 1 = true := by
  constructor
  · intro h j j0 j1
    have e := off_add hn h j0 j1
    have h' := h
    rw [hasB_iff] at h'
    have e0 : (BitVec.ofInt 64 j).toNat = j.toNat := by rw [BitVec.toNat_ofInt]; omega
    have e2 : (p.a + BitVec.ofInt 64 j).toNat = p.a.toNat + j.toNat := by
      rw [BitVec.toNat_add, e0]
      have := p.a.isLt
      rw [offN_eq] at h'
      omega
    rw [hasM_B, hasB_iff, e, e2]
    omega
  · intro h
    have z := h 0 (by omega) (by omega)
    have z1 : p.a + BitVec.ofInt 64 0 = p.a := BitVec.add_zero _
    rw [z1, hasM_B, hasB_iff] at z
    have y := h (p.n - 1) (by omega) (by omega)
    rw [hasM_B, hasB_iff] at y
    have e0 : (BitVec.ofInt 64 (p.n - 1)).toNat = (p.n - 1).toNat := by rw [BitVec.toNat_ofInt]; omega
    have z' := z
    rw [offN_eq] at z'
    have e2 : (p.a + BitVec.ofInt 64 (p.n - 1)).toNat = p.a.toNat + (p.n - 1).toNat := by
      rw [BitVec.toNat_add, e0]
      have := p.a.isLt
      omega
    rw [offN_eq, e2] at y
    rw [hasB_iff]
    rw [offN_eq] at z ⊢
    omega
theorem all_bytes {n : Nat} (hn : n ≤ 4096) {B : Int → BitVec 64} {l : List Pc} : ∀ {m : Int}, 0 ≤ m → gd2 B l m → ((l.all fun p => hasB n p.a p.n) = true ↔ ∀ i : Int, m ≤ i → i < m + tot l → hasM (64 * n) (B i) 1 = true) := by
  induction l with
  | nil => intro m _ _; simp only [List.all_nil, tot]; exact ⟨fun _ i h1 h2 => by omega, fun _ => trivial⟩
  | cons p l ih =>
    intro m h0 h
    obtain ⟨a1, a2, a3, a4, a6⟩ := h
    have ih := ih (by omega) a6
    have t0 := tot_drop a6 0
    rw [List.drop_zero] at t0
    have pb := pc_bytes hn a2 (by omega) (fun j j0 j1 => (a4 j j0 j1).2)
    rw [List.all_cons, Bool.and_eq_true, ih, pb]
    simp only [tot]
    constructor
    · rintro ⟨h1, h2⟩ i i1 i2
      by_cases c : i < m + p.n
      · have e := (a4 (i - m) (by omega) (by omega)).1
        rw [show m + (i - m) = i by omega] at e
        rw [e]; exact h1 _ (by omega) (by omega)
      · exact h2 i (by omega) (by omega)
    · intro h
      refine ⟨fun j j0 j1 => ?_, fun i i1 i2 => h i (by omega) (by omega)⟩
      have e := (a4 j j0 j1).1
      rw [← e]; exact h _ (by omega) (by omega)
theorem may_bytes {n : Nat} (hn : n ≤ 4096) {a b : BitVec 64} {c s : Int} (h : smB c s = true) : ((accP a b c s).all fun p => hasB n p.a p.n) = true ↔ ∀ i : Int, 0 ≤ i → i < s → hasM (64 * n) (byteU a b c i) 1 = true := by
  have := all_bytes hn (Int.le_refl 0) (gd2_acc (a := a) (b := b) h)
  rw [(good_acc (a := a) (b := b) h).2.1, Int.zero_add] at this
  exact this
/-- the document's test of an ask's shape -/
def formR (k : Int) (a : BitVec 64) (c s op : Int) : Bool :=
  if rszA k op < 0 then false else if rszA k op = 0 then (decide (s = 1) || (decide (s = 2) || (decide (s = 4) || decide (s = 8)))) && (decide (0 ≤ c) && decide (c < s))
  else decide (s = rszA k op) && (decide (c = 0) && decide (a % BitVec.ofInt 64 (rszA k op) = 0#64))
theorem form_R {k : Int} {a : BitVec 64} {c s op : Int} : formR k a c s op = formB k a c s op := by
  have zr := szA_le k op
  unfold formR formB rszA
  by_cases h : k = 2 ∨ k = 3
  · rw [if_pos h, if_pos h, if_neg (by decide), if_pos rfl]
    rw [Bool.eq_iff_iff]
    simp only [p2B, smB, Bool.and_eq_true, Bool.or_eq_true, decide_eq_true_eq]
    omega
  · rw [if_neg h, if_neg h]
    by_cases hz : szA k op = 0
    · rw [if_pos hz, if_pos (by decide), hz]; rfl
    · rw [if_neg hz, if_neg (by omega), if_neg hz, decide_eq_true hz, Bool.true_and]
def s_rmay14 (args : List AV) (H : AH) : Option AV :=
  match args with
  | [.g (.i h :: .i t :: .i n' :: .i b' :: .sl id off v N :: tb), .g (.i k :: .u a :: .u b :: .i c :: .i s :: .i op :: .u d :: .u o :: .b lv :: r)] =>
    open Classical in if askR r ∧ inR s ∧ tb = zTb ∧ ∃ n, N = 64 * n ∧ n ≤ 4096 then some (.c (.b (mayB (N / 64) k a b c s op))) else none
  | _ => none
theorem s_rmay14_eq {H : AH} {h t n' b' : Int} {id off v n : Nat} {k : Int} {a b : BitVec 64} {c s op : Int} {d o : BitVec 64} {lv : Bool} {r : List Sc} (hr : askR r) (hs : inR s) (hn : n ≤ 4096) : s_rmay14 [.g (.i h :: .i t :: .i n' :: .i b' :: .sl id off v (64 * n) :: zTb), .g (.i k :: .u a :: .u b :: .i c :: .i s :: .i op :: .u d :: .u o :: .b lv :: r)] H = some (.c (.b (mayB n k a b c s op))) := by
  simp only [s_rmay14]
  rw [if_pos ⟨hr, hs, rfl, n, rfl, hn⟩, Nat.mul_div_cancel_left _ (by decide)]
theorem zTb_f : zTb.length = 16 ∧ zTb.all Sc.pf = true ∧ zTb.all Sc.one = true := ⟨rfl, rfl, rfl⟩

/-! ## XShn -/
set_option maxRecDepth 100000 in
set_option maxHeartbeats 2000000 in
theorem ok_rmay14 : FpOk Tryz.prog 19 (fun args H => (s_rmay14 args H).map fun v => (v, H)) := by
  refine fq_ok (s := s_rmay14) (tab := [(39, .pu s_rsize14), (16, .pu s_r14access), (41, .pu s_rbyte), (40, .fq s_rhasb)]) hmix (TabOk.cons (e := .pu s_rsize14) ok_rsize14 (TabOk.cons (e := .pu s_r14access) ok_r14access (TabOk.cons (e := .pu s_rbyte) ok_rbyte (TabOk.cons (e := .fq s_rhasb) ok_rhasb TabOk.nil)))) Tryz.func19 rfl Tryz.results19 Tryz.ntmps19 (by kernel_rfl) (by kernel_rfl) ?_
  intro args H v h hargs hH
  unfold s_rmay14 at h
  split at h
  · rename_i h0 t n' b' id off v N tb k a b c s op d o lv r
    split at h
    · rename_i hc
      obtain ⟨⟨lr, pr, ro⟩, hs, rfl, n, rfl, hn⟩ := hc
      rw [Nat.mul_div_cancel_left _ (by decide)] at h
      simp only [Option.some.injEq] at h
      subst h
      have rt : r.take 10 = r := List.take_of_length_le (by omega)
      obtain ⟨tl, tp, to⟩ := zTb_f
      have tt : zTb.take 16 = zTb := List.take_of_length_le (by omega)
      refine ⟨by simp only [List.length_cons, List.length_nil]; decide, rfl, ?_⟩
      have lid : id < H.length := by simp only [List.all_cons, AV.bel, Sc.bel, Bool.and_eq_true, decide_eq_true_eq] at hargs; exact hargs.1.2.2.2.2.1
      have eF := form_R (k := k) (a := a) (c := c) (s := s) (op := op)
      have zn : ¬ rszA k op = 0 → ¬ rszA k op < 0 → (BitVec.ofInt 64 (rszA k op) = 0#64) = False := fun h1 h2 => eq_false fun e => by
        have z1 := szA_le k op
        have z2 : rszA k op ≤ 8 := by
          unfold rszA
          split
          · omega
          · split <;> omega
        have := congrArg BitVec.toNat e
        rw [BitVec.toNat_ofInt] at this
        have e0 : (0#64).toNat = 0 := rfl
        rw [e0] at this
        omega
      cases hf : formB k a c s op
      · have e : mayB n k a b c s op = false := by unfold mayB; rw [hf]; rfl
        rw [e]
        rw [hf] at eF
        unfold formR at eF
        by_cases h1 : rszA k op < 0
        · (try simp (config := { maxSteps := 10000000 }) only [go_sem, seval, s_rsize14_eq, s_r14access_eq, s_rbyte_eq, s_rhasb_eq, lr, pr, ro, rt, tl, to, h1]; repeat (simp (disch := omega) only [w64_d, ipos, ineg, dpos, dneg]; try simp (config := { maxSteps := 10000000 }) only [go_sem, seval, s_rsize14_eq, s_r14access_eq, s_rbyte_eq, s_rhasb_eq, lr, pr, ro, rt, tl, to, h1]))
          exact subH_app _ _
        by_cases h2 : rszA k op = 0
        · rw [if_neg h1, if_pos h2] at eF
          by_cases hx : s = 1 ∨ s = 2 ∨ s = 4 ∨ s = 8
          · have x : ((s = 1) = True ∧ True) ∨ ((s = 1) = False ∧ (s = 2) = True) ∨ ((s = 1) = False ∧ (s = 2) = False ∧ (s = 4) = True) ∨ ((s = 1) = False ∧ (s = 2) = False ∧ (s = 4) = False ∧ (s = 8) = True) := by
              rcases hx with h | h | h | h
              · exact .inl ⟨eq_true h, trivial⟩
              · exact .inr (.inl ⟨eq_false (by omega), eq_true h⟩)
              · exact .inr (.inr (.inl ⟨eq_false (by omega), eq_false (by omega), eq_true h⟩))
              · exact .inr (.inr (.inr ⟨eq_false (by omega), eq_false (by omega), eq_false (by omega), eq_true h⟩))
            by_cases c0 : c < 0
            · rcases x with x | x | x | x
              all_goals (try simp (config := { maxSteps := 10000000 }) only [go_sem, seval, s_rsize14_eq, s_r14access_eq, s_rbyte_eq, s_rhasb_eq, lr, pr, ro, rt, tl, to, h1, h2, x, c0]; repeat (simp (disch := omega) only [w64_d, ipos, ineg, dpos, dneg]; try simp (config := { maxSteps := 10000000 }) only [go_sem, seval, s_rsize14_eq, s_r14access_eq, s_rbyte_eq, s_rhasb_eq, lr, pr, ro, rt, tl, to, h1, h2, x, c0]))
              all_goals exact subH_app _ _
            · have c1 : s ≤ c := by
                rcases hx with h | h | h | h
                all_goals (rw [h] at eF ⊢; simp at eF; omega)
              rcases x with x | x | x | x
              all_goals (try simp (config := { maxSteps := 10000000 }) only [go_sem, seval, s_rsize14_eq, s_r14access_eq, s_rbyte_eq, s_rhasb_eq, lr, pr, ro, rt, tl, to, h1, h2, x, c0, c1]; repeat (simp (disch := omega) only [w64_d, ipos, ineg, dpos, dneg]; try simp (config := { maxSteps := 10000000 }) only [go_sem, seval, s_rsize14_eq, s_r14access_eq, s_rbyte_eq, s_rhasb_eq, lr, pr, ro, rt, tl, to, h1, h2, x, c0, c1]))
              all_goals exact subH_app _ _
          · have y1 : ¬ s = 1 := fun h => hx (.inl h)
            have y2 : ¬ s = 2 := fun h => hx (.inr (.inl h))
            have y4 : ¬ s = 4 := fun h => hx (.inr (.inr (.inl h)))
            have y8 : ¬ s = 8 := fun h => hx (.inr (.inr (.inr h)))
            (try simp (config := { maxSteps := 10000000 }) only [go_sem, seval, s_rsize14_eq, s_r14access_eq, s_rbyte_eq, s_rhasb_eq, lr, pr, ro, rt, tl, to, h1, h2, y1, y2, y4, y8]; repeat (simp (disch := omega) only [w64_d, ipos, ineg, dpos, dneg]; try simp (config := { maxSteps := 10000000 }) only [go_sem, seval, s_rsize14_eq, s_r14access_eq, s_rbyte_eq, s_rhasb_eq, lr, pr, ro, rt, tl, to, h1, h2, y1, y2, y4, y8]))
            exact subH_app _ _
        · rw [if_neg h1, if_neg h2] at eF
          have h3 : 0 < rszA k op := by omega
          have z := zn h2 h1
          by_cases x1 : s = rszA k op
          · by_cases x2 : c = 0
            · have x3 : ¬ a % BitVec.ofInt 64 (rszA k op) = 0#64 := by
                intro e; rw [decide_eq_true x1, decide_eq_true x2, decide_eq_true e] at eF; simp at eF
              have x1' := eq_true x1
              (try simp (config := { maxSteps := 10000000 }) only [go_sem, seval, s_rsize14_eq, s_r14access_eq, s_rbyte_eq, s_rhasb_eq, lr, pr, ro, rt, tl, to, h1, h2, h3, z, x1', x2, x3]; repeat (simp (disch := omega) only [w64_d, ipos, ineg, dpos, dneg]; try simp (config := { maxSteps := 10000000 }) only [go_sem, seval, s_rsize14_eq, s_r14access_eq, s_rbyte_eq, s_rhasb_eq, lr, pr, ro, rt, tl, to, h1, h2, h3, z, x1', x2, x3]))
              exact subH_app _ _
            · have x1' := eq_true x1
              (try simp (config := { maxSteps := 10000000 }) only [go_sem, seval, s_rsize14_eq, s_r14access_eq, s_rbyte_eq, s_rhasb_eq, lr, pr, ro, rt, tl, to, h1, h2, h3, z, x1', x2]; repeat (simp (disch := omega) only [w64_d, ipos, ineg, dpos, dneg]; try simp (config := { maxSteps := 10000000 }) only [go_sem, seval, s_rsize14_eq, s_r14access_eq, s_rbyte_eq, s_rhasb_eq, lr, pr, ro, rt, tl, to, h1, h2, h3, z, x1', x2]))
              exact subH_app _ _
          · (try simp (config := { maxSteps := 10000000 }) only [go_sem, seval, s_rsize14_eq, s_r14access_eq, s_rbyte_eq, s_rhasb_eq, lr, pr, ro, rt, tl, to, h1, h2, h3, z, x1]; repeat (simp (disch := omega) only [w64_d, ipos, ineg, dpos, dneg]; try simp (config := { maxSteps := 10000000 }) only [go_sem, seval, s_rsize14_eq, s_r14access_eq, s_rbyte_eq, s_rhasb_eq, lr, pr, ro, rt, tl, to, h1, h2, h3, z, x1]))
            exact subH_app _ _
      · have hm := p2_sm (b := b) hf
        have hs8 : 1 ≤ s ∧ s ≤ 8 ∧ 0 ≤ c ∧ c < s := by simpa [smB] using hm
        have e : mayB n k a b c s op = (accP a b c s).all fun p => hasB n p.a p.n := by unfold mayB; rw [hf]; rfl
        rw [e]
        have mb := may_bytes (a := a) (b := b) hn hm
        have bS : belH (H ++ [.own (.i h0 :: .i t :: .i n' :: .i b' :: .sl id off v (64 * n) :: zTb), .own (.i k :: .u a :: .u b :: .i c :: .i s :: .i op :: .u d :: .u o :: .b lv :: r), .own [.u a, .u b, .i c, .i s]]) = true := belH_app hH (by
          simp only [List.mem_cons, List.not_mem_nil, or_false, forall_eq_or_imp, forall_eq, AObj.scs, List.all_cons, Sc.bel, Bool.true_and, Bool.and_eq_true, decide_eq_true_eq, List.length_append, List.length_cons, List.length_nil]
          exact ⟨⟨by omega, pf_bel _ tp⟩, pf_bel _ pr, rfl⟩)
        generalize ((accP a b c s).all fun p => hasB n p.a p.n) = G at mb
        rw [hf] at eF
        unfold formR at eF
        have h1 : ¬ rszA k op < 0 := fun h => by rw [if_pos h] at eF; simp at eF
        by_cases h2 : rszA k op = 0
        · rw [if_neg h1, if_pos h2] at eF
          have c0 : ¬ c < 0 := by omega
          have c1 : ¬ s ≤ c := by omega
          simp only [Bool.and_eq_true, Bool.or_eq_true, decide_eq_true_eq] at eF
          have x : ((s = 1) = True ∧ True) ∨ ((s = 1) = False ∧ (s = 2) = True) ∨ ((s = 1) = False ∧ (s = 2) = False ∧ (s = 4) = True) ∨ ((s = 1) = False ∧ (s = 2) = False ∧ (s = 4) = False ∧ (s = 8) = True) := by
            rcases eF.1 with h | h | h | h
            · exact .inl ⟨eq_true h, trivial⟩
            · exact .inr (.inl ⟨eq_false (by omega), eq_true h⟩)
            · exact .inr (.inr (.inl ⟨eq_false (by omega), eq_false (by omega), eq_true h⟩))
            · exact .inr (.inr (.inr ⟨eq_false (by omega), eq_false (by omega), eq_false (by omega), eq_true h⟩))
          rcases x with x | x | x | x
          all_goals (try simp (config := { maxSteps := 10000000 }) only [go_sem, seval, s_rsize14_eq, s_r14access_eq, s_rbyte_eq, s_rhasb_eq, lr, pr, ro, rt, tl, to, h1, h2, x, c0, c1]; repeat (simp (disch := omega) only [w64_d, ipos, ineg, dpos, dneg]; try simp (config := { maxSteps := 10000000 }) only [go_sem, seval, s_rsize14_eq, s_r14access_eq, s_rbyte_eq, s_rhasb_eq, lr, pr, ro, rt, tl, to, h1, h2, x, c0, c1]))
          all_goals
            rw [arun_loop]
            refine ⟨{j : Nat // (j : Int) ≤ s ∧ ∀ i : Nat, i < j → hasM (64 * n) (byteU a b c i) 1 = true}, fun j => ([(2, .c (.p H.length 0 0)), (3, .c (.p (H.length + 1) 0 0)), (6, .c (.p (H.length + 2) 0 0)), (7, .c (.i j.1))], H ++ [.own (.i h0 :: .i t :: .i n' :: .i b' :: .sl id off v (64 * n) :: zTb), .own (.i k :: .u a :: .u b :: .i c :: .i s :: .i op :: .u d :: .u o :: .b lv :: r), .own [.u a, .u b, .i c, .i s]]), fun j => s.toNat - j.1, ⟨0, by omega, fun i hi => absurd hi (Nat.not_lt_zero _)⟩, ?_, ?_⟩
            · exact Wk.wk (by simp [lo]) (by simp [Am.get]) (by simp [AV.bel, Sc.bel]) (subH_refl _) bS
            · rintro ⟨j, hj, hok⟩
              by_cases hlt : (j : Int) < s
              · have e2 : w64 ((j : Int) + 1) = ((j + 1 : Nat) : Int) := by rw [w64_d (by omega) (by omega)]; omega
                have e3 : 0 ≤ c ∧ c ≤ 8 ∧ 0 ≤ (j : Int) ∧ (j : Int) ≤ 8 := by omega
                have q := fun H => s_rhasb_eq (H := H) (id := id) (off := off) (v := v) (N := 64 * n) (a := byteU a b c j) (n := 1) ⟨by omega, by omega, by omega⟩
                cases hb : hasM (64 * n) (byteU a b c j) 1
                · have g : G = false := by
                    cases e : G
                    · rfl
                    · rw [e] at mb
                      have := mb.1 rfl j (by omega) hlt
                      rw [hb] at this; simp at this
                  (try simp (config := { maxSteps := 10000000 }) only [go_sem, seval, s_rsize14_eq, s_r14access_eq, s_rbyte_eq, s_rhasb_eq, lr, pr, ro, rt, tl, to, hlt, e3, q, hb, g]; repeat (simp (disch := omega) only [w64_d, ipos, ineg, dpos, dneg]; try simp (config := { maxSteps := 10000000 }) only [go_sem, seval, s_rsize14_eq, s_r14access_eq, s_rbyte_eq, s_rhasb_eq, lr, pr, ro, rt, tl, to, hlt, e3, q, hb, g]))
                  exact subH_app _ _
                · (try simp (config := { maxSteps := 10000000 }) only [go_sem, seval, s_rsize14_eq, s_r14access_eq, s_rbyte_eq, s_rhasb_eq, lr, pr, ro, rt, tl, to, hlt, e2, e3, q, hb]; repeat (simp (disch := omega) only [w64_d, ipos, ineg, dpos, dneg]; try simp (config := { maxSteps := 10000000 }) only [go_sem, seval, s_rsize14_eq, s_r14access_eq, s_rbyte_eq, s_rhasb_eq, lr, pr, ro, rt, tl, to, hlt, e2, e3, q, hb]))
                  exact ⟨⟨j + 1, by omega, fun i hi => by
                    rcases Nat.lt_or_ge i j with h | h
                    · exact hok i h
                    · obtain rfl : i = j := by omega
                      exact hb⟩, by simp only; omega, Wk.wk (by simp [lo]) (by simp [Am.get]) (by simp [AV.bel, Sc.bel]) (subH_refl _) bS⟩
              · have g : G = true := mb.2 fun i i0 i1 => by
                  obtain ⟨i, rfl⟩ := Int.eq_ofNat_of_zero_le i0
                  exact hok i (by omega)
                (try simp (config := { maxSteps := 10000000 }) only [go_sem, seval, lr, ro, rt, tl, to, hlt, g]; repeat (simp (disch := omega) only [w64_d, ipos, ineg, dpos, dneg]; try simp (config := { maxSteps := 10000000 }) only [go_sem, seval, lr, ro, rt, tl, to, hlt, g]))
                exact subH_app _ _
        · rw [if_neg h1, if_neg h2] at eF
          simp only [Bool.and_eq_true, decide_eq_true_eq] at eF
          obtain ⟨x1, x2, x3⟩ := eF
          have h3 : 0 < rszA k op := by omega
          have z := zn h2 h1
          have x1' := eq_true x1
          have x2' := eq_true x2
          (try simp (config := { maxSteps := 10000000 }) only [go_sem, seval, s_rsize14_eq, s_r14access_eq, s_rbyte_eq, s_rhasb_eq, lr, pr, ro, rt, tl, to, h1, h2, h3, z, x1', x2', x3]; repeat (simp (disch := omega) only [w64_d, ipos, ineg, dpos, dneg]; try simp (config := { maxSteps := 10000000 }) only [go_sem, seval, s_rsize14_eq, s_r14access_eq, s_rbyte_eq, s_rhasb_eq, lr, pr, ro, rt, tl, to, h1, h2, h3, z, x1', x2', x3]))
          all_goals
            rw [arun_loop]
            refine ⟨{j : Nat // (j : Int) ≤ s ∧ ∀ i : Nat, i < j → hasM (64 * n) (byteU a b c i) 1 = true}, fun j => ([(2, .c (.p H.length 0 0)), (3, .c (.p (H.length + 1) 0 0)), (6, .c (.p (H.length + 2) 0 0)), (7, .c (.i j.1))], H ++ [.own (.i h0 :: .i t :: .i n' :: .i b' :: .sl id off v (64 * n) :: zTb), .own (.i k :: .u a :: .u b :: .i c :: .i s :: .i op :: .u d :: .u o :: .b lv :: r), .own [.u a, .u b, .i c, .i s]]), fun j => s.toNat - j.1, ⟨0, by omega, fun i hi => absurd hi (Nat.not_lt_zero _)⟩, ?_, ?_⟩
            · exact Wk.wk (by simp [lo]) (by simp [Am.get]) (by simp [AV.bel, Sc.bel]) (subH_refl _) bS
            · rintro ⟨j, hj, hok⟩
              by_cases hlt : (j : Int) < s
              · have e2 : w64 ((j : Int) + 1) = ((j + 1 : Nat) : Int) := by rw [w64_d (by omega) (by omega)]; omega
                have e3 : 0 ≤ c ∧ c ≤ 8 ∧ 0 ≤ (j : Int) ∧ (j : Int) ≤ 8 := by omega
                have q := fun H => s_rhasb_eq (H := H) (id := id) (off := off) (v := v) (N := 64 * n) (a := byteU a b c j) (n := 1) ⟨by omega, by omega, by omega⟩
                cases hb : hasM (64 * n) (byteU a b c j) 1
                · have g : G = false := by
                    cases e : G
                    · rfl
                    · rw [e] at mb
                      have := mb.1 rfl j (by omega) hlt
                      rw [hb] at this; simp at this
                  (try simp (config := { maxSteps := 10000000 }) only [go_sem, seval, s_rsize14_eq, s_r14access_eq, s_rbyte_eq, s_rhasb_eq, lr, pr, ro, rt, tl, to, hlt, e3, q, hb, g]; repeat (simp (disch := omega) only [w64_d, ipos, ineg, dpos, dneg]; try simp (config := { maxSteps := 10000000 }) only [go_sem, seval, s_rsize14_eq, s_r14access_eq, s_rbyte_eq, s_rhasb_eq, lr, pr, ro, rt, tl, to, hlt, e3, q, hb, g]))
                  exact subH_app _ _
                · (try simp (config := { maxSteps := 10000000 }) only [go_sem, seval, s_rsize14_eq, s_r14access_eq, s_rbyte_eq, s_rhasb_eq, lr, pr, ro, rt, tl, to, hlt, e2, e3, q, hb]; repeat (simp (disch := omega) only [w64_d, ipos, ineg, dpos, dneg]; try simp (config := { maxSteps := 10000000 }) only [go_sem, seval, s_rsize14_eq, s_r14access_eq, s_rbyte_eq, s_rhasb_eq, lr, pr, ro, rt, tl, to, hlt, e2, e3, q, hb]))
                  exact ⟨⟨j + 1, by omega, fun i hi => by
                    rcases Nat.lt_or_ge i j with h | h
                    · exact hok i h
                    · obtain rfl : i = j := by omega
                      exact hb⟩, by simp only; omega, Wk.wk (by simp [lo]) (by simp [Am.get]) (by simp [AV.bel, Sc.bel]) (subH_refl _) bS⟩
              · have g : G = true := mb.2 fun i i0 i1 => by
                  obtain ⟨i, rfl⟩ := Int.eq_ofNat_of_zero_le i0
                  exact hok i (by omega)
                (try simp (config := { maxSteps := 10000000 }) only [go_sem, seval, lr, ro, rt, tl, to, hlt, g]; repeat (simp (disch := omega) only [w64_d, ipos, ineg, dpos, dneg]; try simp (config := { maxSteps := 10000000 }) only [go_sem, seval, lr, ro, rt, tl, to, hlt, g]))
                exact subH_app _ _
    · simp at h
  · simp at h

/-! ## XSho -/
theorem neq_conf : abin Tryz.prog .neq 23 (.g [.i 0, .i 0, .i 0, .i 0]) (.g [.i 0, .i 0, .i 0, .i 0]) = some (.c (.b false)) := by rw [neT23]; rfl
theorem eq_conf {h t n b : Int} : abin Tryz.prog .eql 23 (.g [.i h, .i t, .i n, .i b]) (.g [.i h, .i t, .i n, .i b]) = some (.c (.b true)) := by rw [eqT23]; simp [csEq, scEq, eqU]
theorem neq_acc {a b : BitVec 64} {c s : Int} : abin Tryz.prog .neq 52 (.g [.u a, .u b, .i c, .i s]) (.g [.u a, .u b, .i c, .i s]) = some (.c (.b false)) := by rw [neT52]; simp [csEq, scEq, eqU]
def mcond (s : Int) (n : Int) (r m : List Sc) : Prop := askR r ∧ isN m ∧ inR s
instance decMc (s : Int) (n : Int) (r m : List Sc) : Decidable (mcond s n r m) := Classical.propDecidable _
def s_smays (args : List AV) : Option AV :=
  match args with
  | [.g [.i h, .i t, .i n, .i b], .g (.i k :: .u a :: .u x :: .i c :: .i s :: .i op :: .u d :: .u o :: .b lv :: r), .g m] => if mcond s n r m then some (.c (.b true)) else none
  | _ => none
theorem s_smays_eq {h t n b k a x c s op d o lv r m} : s_smays [.g [.i h, .i t, .i n, .i b], .g (.i k :: .u a :: .u x :: .i c :: .i s :: .i op :: .u d :: .u o :: .b lv :: r), .g m] = if mcond s n r m then some (.c (.b true)) else none := rfl
set_option maxRecDepth 100000 in
set_option maxHeartbeats 2000000 in
theorem ok_smays : PuOk Tryz.prog 3 s_smays := by
  refine pu_ok (tab := [(4, .fp s_sdo14), (5, .fq s_smay14), (6, .fp s_sneeds), (7, .fq s_sram), (8, .pu s_scloneN), (9, .fq s_sconf), (10, .fp s_snew), (11, .pu s_sright), (12, .pu s_rright14), (13, .pu s_swrites), (14, .pu s_rwrites14), (15, .pu s_saccess), (16, .pu s_r14access), (17, .pu s_slive14), (18, .fp s_r14new), (19, .fq s_rmay14), (20, .fp s_rstripes), (21, .fq s_ints), (22, .fq s_rlines10)]) hmix (TabOk.cons (e := .fp s_sdo14) ok_sdo14 (TabOk.cons (e := .fq s_smay14) ok_smay14 (TabOk.cons (e := .fp s_sneeds) ok_sneeds (TabOk.cons (e := .fq s_sram) ok_sram (TabOk.cons (e := .pu s_scloneN) ok_scloneN (TabOk.cons (e := .fq s_sconf) ok_sconf (TabOk.cons (e := .fp s_snew) ok_snew (TabOk.cons (e := .pu s_sright) ok_sright (TabOk.cons (e := .pu s_rright14) ok_rright14 (TabOk.cons (e := .pu s_swrites) ok_swrites (TabOk.cons (e := .pu s_rwrites14) ok_rwrites14 (TabOk.cons (e := .pu s_saccess) ok_saccess (TabOk.cons (e := .pu s_r14access) ok_r14access (TabOk.cons (e := .pu s_slive14) ok_slive14 (TabOk.cons (e := .fp s_r14new) ok_r14new (TabOk.cons (e := .fq s_rmay14) ok_rmay14 (TabOk.cons (e := .fp s_rstripes) ok_rstripes (TabOk.cons (e := .fq s_ints) ok_ints (TabOk.cons (e := .fq s_rlines10) ok_rlines10 TabOk.nil))))))))))))))))))) Tryz.func3 rfl Tryz.results3 Tryz.ntmps3 (by kernel_rfl) (by kernel_rfl) ?_
  intro args v h
  unfold s_smays at h
  split at h
  · rename_i h t n b k a x c s op d o lv r m
    split at h
    · rename_i hc
      simp only [Option.some.injEq] at h; subst h
      obtain ⟨hr, hm, hs⟩ := hc
      have pr := hr.2.1
      have pm := hm.2.1
      refine ⟨by simp only [List.length_cons, List.length_nil]; decide, by first | rfl | simp only [List.all_cons, List.all_nil, AV.pf, Sc.pf, Bool.and_true, *], by first | rfl | simp only [List.all_cons, List.all_nil, AV.pf, Sc.pf, Bool.and_true, *], ?_⟩
      have lr := hr.1
      have ro := hr.2.2
      have rt : r.take 10 = r := List.take_of_length_le (by omega)
      have lm := hm.1
      have tl := zTb_f.1
      have to := zTb_f.2.2
      have tb : zTb.take 16 = zTb := rfl
      have mt : m.take 42 = m := List.take_of_length_le (by omega)
      have iQ := isQ_of (k := k) (a := a) (b := x) (c := c) (s := s) (op := op) (d := d) (o := o) (lv := lv) hr
      have wE : wrB (gi (.i k :: .u a :: .u x :: .i c :: .i s :: .i op :: .u d :: .u o :: .b lv :: r) 0) (gb m 1) = wrB k (gb m 1) := rfl
      have z1 := fun H => s_sdo14_nil (H := H) (h := 0) (k := k) (a := a) (b := x) (c := c) (s := s) (op := op) (d := d) (o := o) (lv := lv) hr
      have z2 := fun H => s_smay14_nil (H := H) (k := k) (a := a) (b := x) (c := c) (s := s) (op := op) (d := d) (o := o) (lv := lv) hr
      have z3 := fun H => s_sneeds_nil (H := H) (k := k) (a := a) (b := x) (c := c) (s := s) (op := op) (d := d) (o := o) (lv := lv) hr
      have z4 := fun H => s_sram_nil (H := H)
      have z5 := fun H => s_sconf_nil (H := H)
      cases hR : rightB14 h t n b
      · have p0 : ∀ H, s_snew [.g [.i h, .i t, .i n, .i b]] H = some (.t [.c .nilp, .c (.i 1)], H) := fun H => by rw [s_snew_eq, hR, if_neg (by decide)]
        (try simp (config := { maxSteps := 10000000 }) only [go_sem, seval, s_sdo14_eq, s_smay14_eq, s_sneeds_eq, s_sram_eq, s_scloneN_eq, s_sconf_eq, s_snew_eq, s_sright_eq, s_rright14_eq, s_swrites_eq, s_rwrites14_eq, s_saccess_eq, s_r14access_eq, s_slive14_eq, s_r14new_eq, s_rmay14_eq, s_rstripes_eq, s_ints_eq, s_rlines10_eq, lr, pr, ro, rt, lm, pm, mt, iQ, hm, wE, z1, z2, z3, z4, z5, anC, neq_conf, neq_acc, p0, hR, bne_self_eq_false]; repeat (simp (disch := omega) only [w64_d, ipos, ineg, dpos, dneg]; try simp (config := { maxSteps := 10000000 }) only [go_sem, seval, s_sdo14_eq, s_smay14_eq, s_sneeds_eq, s_sram_eq, s_scloneN_eq, s_sconf_eq, s_snew_eq, s_sright_eq, s_rright14_eq, s_swrites_eq, s_rwrites14_eq, s_saccess_eq, s_r14access_eq, s_slive14_eq, s_r14new_eq, s_rmay14_eq, s_rstripes_eq, s_ints_eq, s_rlines10_eq, lr, pr, ro, rt, lm, pm, mt, iQ, hm, wE, z1, z2, z3, z4, z5, anC, neq_conf, neq_acc, p0, hR, bne_self_eq_false]))
      · have hR' := hR
        simp only [rightB14, wiI, Bool.and_eq_true, decide_eq_true_eq] at hR'
        obtain ⟨T, hT⟩ : ∃ T, T = [.own [.i h, .i t, .i n, .i b], .own (.i k :: .u a :: .u x :: .i c :: .i s :: .i op :: .u d :: .u o :: .b lv :: r), .own m, .own (.u 0#64 :: .b false :: zMl)] ++ nwH 4 h t n b := ⟨_, rfl⟩
        have p0 : s_snew [.g [.i h, .i t, .i n, .i b]] [.own [.i h, .i t, .i n, .i b], .own (.i k :: .u a :: .u x :: .i c :: .i s :: .i op :: .u d :: .u o :: .b lv :: r), .own m, .own (.u 0#64 :: .b false :: zMl)] = some (.t [.c (.p 7 0 0), .c (.i 0)], T ++ []) := by rw [s_snew_eq, hR, if_pos rfl, hT, List.append_nil]; rfl
        have hS : ShIs T (.p 7 0 0) (nwS 4 h t n b) := by rw [hT]; exact nwIs (H := [.own [.i h, .i t, .i n, .i b], .own (.i k :: .u a :: .u x :: .i c :: .i s :: .i op :: .u d :: .u o :: .b lv :: r), .own m, .own (.u 0#64 :: .b false :: zMl)]) hR
        have lT : T.length = 8 := by rw [hT]; rfl
        have g0 : ∀ X, hg (T ++ X) 0 = .own [.i h, .i t, .i n, .i b] := fun X => by rw [hT]; rfl
        have g1 : ∀ X, hg (T ++ X) 1 = .own (.i k :: .u a :: .u x :: .i c :: .i s :: .i op :: .u d :: .u o :: .b lv :: r) := fun X => by rw [hT]; rfl
        have g2 : ∀ X, hg (T ++ X) 2 = .own m := fun X => by rw [hT]; rfl
        have gT : ∀ X j, 8 ≤ j → hg (T ++ X) j = hg X (j - 8) := fun X j h => by
          obtain ⟨i, rfl⟩ : ∃ i, j = 8 + i := ⟨j - 8, by omega⟩
          rw [← lT, hg_len_add, Nat.add_sub_cancel_left]
        have sT : ∀ X j o, 8 ≤ j → (T ++ X).set j o = T ++ X.set (j - 8) o := fun X j o h => by
          obtain ⟨i, rfl⟩ : ∃ i, j = 8 + i := ⟨j - 8, by omega⟩
          rw [← lT, set_len_add, Nat.add_sub_cancel_left]
        clear hT
        have n0 : ((n.toNat : Nat) : Int) = n := by omega
        have q1 := fun X => s_sconf_eq (hS.app X)
        have q2 := fun X => s_smay14_eq (k := k) (a := a) (b := x) (c := c) (s := s) (op := op) (d := d) (o := o) (lv := lv) (hS.app X) hr
        have q3 := fun X => s_sneeds_eq (k := k) (a := a) (b := x) (c := c) (s := s) (op := op) (d := d) (o := o) (lv := lv) (hS.app X) hr
        have q4 := fun X => s_sram_eq (hS.app X)
        have q5 := fun X => s_rlines10_eq (hS.app X).r
        have q6 := fun H id v => s_rmay14_eq (H := H) (h := h) (t := t) (n' := n) (b' := b) (id := id) (off := 0) (v := v) (n := n.toNat) (k := k) (a := a) (b := x) (c := c) (s := s) (op := op) (d := d) (o := o) (lv := lv) hr hs (by omega)
        have q7 := fun H => s_r14new_eq (H := H) (h := h) (t := t) (n := n) (b := b) (by omega)
        simp only [nwS, n0] at q1 q2 q3 q4 q5
        clear hS
        have g0' := g0 []
        have g1' := g1 []
        have g2' := g2 []
        have q1' := q1 []
        have q2' := q2 []
        have q4' := q4 []
        have q5' := q5 []
        simp only [List.append_nil] at g0' g1' g2' q1' q2' q4' q5'
        by_cases h60 : 60 < n
        · (try simp (config := { maxSteps := 10000000 }) only [go_sem, seval, s_sdo14_eq, s_smay14_eq, s_sneeds_eq, s_sram_eq, s_scloneN_eq, s_sconf_eq, s_snew_eq, s_sright_eq, s_rright14_eq, s_swrites_eq, s_rwrites14_eq, s_saccess_eq, s_r14access_eq, s_slive14_eq, s_r14new_eq, s_rmay14_eq, s_rstripes_eq, s_ints_eq, s_rlines10_eq, lr, pr, ro, rt, lm, pm, mt, iQ, hm, wE, z1, z2, z3, z4, z5, anC, neq_conf, neq_acc, p0, hR, bne_self_eq_false, g0, g1, g2, g0', g1', g2', gT, sT, lT, h60]; repeat (simp (disch := omega) only [w64_d, ipos, ineg, dpos, dneg]; try simp (config := { maxSteps := 10000000 }) only [go_sem, seval, s_sdo14_eq, s_smay14_eq, s_sneeds_eq, s_sram_eq, s_scloneN_eq, s_sconf_eq, s_snew_eq, s_sright_eq, s_rright14_eq, s_swrites_eq, s_rwrites14_eq, s_saccess_eq, s_r14access_eq, s_slive14_eq, s_r14new_eq, s_rmay14_eq, s_rstripes_eq, s_ints_eq, s_rlines10_eq, lr, pr, ro, rt, lm, pm, mt, iQ, hm, wE, z1, z2, z3, z4, z5, anC, neq_conf, neq_acc, p0, hR, bne_self_eq_false, g0, g1, g2, g0', g1', g2', gT, sT, lT, h60]))
        cases hM : mayB n.toNat k a x c s op
        · simp only [hM, Bool.false_eq_true, if_false] at q3
          have q3' := q3 []
          simp only [List.append_nil] at q3'
          have q8 := fun H => s_ints_eq (H := H) (x := .nils) (y := .nils) (A := []) rfl rfl (by decide)
          (try simp (config := { maxSteps := 10000000 }) only [go_sem, seval, s_sdo14_eq, s_smay14_eq, s_sneeds_eq, s_sram_eq, s_scloneN_eq, s_sconf_eq, s_snew_eq, s_sright_eq, s_rright14_eq, s_swrites_eq, s_rwrites14_eq, s_saccess_eq, s_r14access_eq, s_slive14_eq, s_r14new_eq, s_rmay14_eq, s_rstripes_eq, s_ints_eq, s_rlines10_eq, lr, pr, ro, rt, lm, pm, mt, iQ, hm, wE, z1, z2, z3, z4, z5, anC, neq_conf, eq_conf, neq_acc, p0, hR, bne_self_eq_false, g0, g1, g2, g0', g1', g2', gT, sT, lT, h60, q1, q1', q2, q2', q3, q3', q4, q4', q5, q5', q6, q7, q8, hM, tl, to, tb]; repeat (simp (disch := omega) only [w64_d, ipos, ineg, dpos, dneg]; try simp (config := { maxSteps := 10000000 }) only [go_sem, seval, s_sdo14_eq, s_smay14_eq, s_sneeds_eq, s_sram_eq, s_scloneN_eq, s_sconf_eq, s_snew_eq, s_sright_eq, s_rright14_eq, s_swrites_eq, s_rwrites14_eq, s_saccess_eq, s_r14access_eq, s_slive14_eq, s_r14new_eq, s_rmay14_eq, s_rstripes_eq, s_ints_eq, s_rlines10_eq, lr, pr, ro, rt, lm, pm, mt, iQ, hm, wE, z1, z2, z3, z4, z5, anC, neq_conf, eq_conf, neq_acc, p0, hR, bne_self_eq_false, g0, g1, g2, g0', g1', g2', gT, sT, lT, h60, q1, q1', q2, q2', q3, q3', q4, q4', q5, q5', q6, q7, q8, hM, tl, to, tb]))
          repeat' first | apply And.intro | (intro _; kernel_rfl) | kernel_rfl
        · simp only [hM, if_true] at q3
          have q3' := q3 []
          simp only [List.append_nil] at q3'
          have it : inR t := ⟨by omega, by omega⟩
          have sm := (may_all hM).1
          have q9 := fun H => s_rstripes_eq (H := H) (a := a) (b := x) (c := c) (s := s) (st := t) it
          simp only [sm, if_true] at q9
          have l4 := @accP_le a x c s
          have sl := @strL_len a x c s t
          have eD : ddp (srt ltI (strL a x c s t)) = setL (strL a x c s t) := sort_fold linI (fun _ => Iff.rfl)
          have dl : (ddp (srt ltI (strL a x c s t))).length ≤ (srt ltI (strL a x c s t)).length := ddN_le
          rw [srt_len] at dl
          have eC : cmpCI (srt ltI (strL a x c s t)) = (setL (strL a x c s t)).map gI ++ List.replicate ((srt ltI (strL a x c s t)).length - (setL (strL a x c s t)).length) (gI 0) := by unfold cmpCI; rw [eD]
          have lC : (cmpCI (srt ltI (strL a x c s t))).length = (strL a x c s t).length := by
            have := @srt_len _ ltI (strL a x c s t)
            simp [cmpCI]; omega
          generalize List.replicate ((srt ltI (strL a x c s t)).length - (setL (strL a x c s t)).length) (gI 0) = R at eC
          rw [eC] at lC
          simp only [eC, eD] at q3 q3'
          rw [eD] at dl
          generalize setL (strL a x c s t) = D at *
          generalize strL a x c s t = A at *
          have q8 := s_ints_eq (H := T ++ [.dead, .dead, .dead, .vec 1 (List.replicate (64 * n.toNat) (.k .u8 0)), .own (.i h :: .i t :: .i n :: .i b :: .sl 11 0 (64 * n.toNat) (64 * n.toNat) :: zTb), .vec 1 (D.map gI), .dead, .vec 1 (D.map gI ++ R)]) (x := .sl 15 0 A.length D.length) (y := .sl 13 0 D.length D.length) (A := D)
            (slP_of dcI_e (by rw [gT _ _ (by decide)]; exact lC.symm) rfl (by rw [gT _ _ (by decide)]; show D.length ≤ (D.map gI ++ R).length; rw [lC]; exact dl) (by rw [gT _ _ (by decide)]; show (D.map gI ++ R).take D.length = _; rw [List.take_append_of_le_length (by simp), List.take_of_length_le (by simp)]; rfl))
            (slP_of dcI_e (by rw [gT _ _ (by decide)]; show D.length = (D.map gI).length; simp) rfl (by rw [gT _ _ (by decide)]; show D.length ≤ (D.map gI).length; simp) (by rw [gT _ _ (by decide)]; show (D.map gI).take D.length = _; rw [List.take_of_length_le (by simp)]; rfl)) (by omega)
          (try simp (config := { maxSteps := 10000000 }) only [go_sem, seval, s_sdo14_eq, s_smay14_eq, s_sneeds_eq, s_sram_eq, s_scloneN_eq, s_sconf_eq, s_snew_eq, s_sright_eq, s_rright14_eq, s_swrites_eq, s_rwrites14_eq, s_saccess_eq, s_r14access_eq, s_slive14_eq, s_r14new_eq, s_rmay14_eq, s_rstripes_eq, s_ints_eq, s_rlines10_eq, lr, pr, ro, rt, lm, pm, mt, iQ, hm, wE, z1, z2, z3, z4, z5, anC, neq_conf, eq_conf, neq_acc, p0, hR, bne_self_eq_false, g0, g1, g2, g0', g1', g2', gT, sT, lT, h60, q1, q1', q2, q2', q3, q3', q4, q4', q5, q5', q6, q7, q8, q9, hM, tl, to, tb]; repeat (simp (disch := omega) only [w64_d, ipos, ineg, dpos, dneg]; try simp (config := { maxSteps := 10000000 }) only [go_sem, seval, s_sdo14_eq, s_smay14_eq, s_sneeds_eq, s_sram_eq, s_scloneN_eq, s_sconf_eq, s_snew_eq, s_sright_eq, s_rright14_eq, s_swrites_eq, s_rwrites14_eq, s_saccess_eq, s_r14access_eq, s_slive14_eq, s_r14new_eq, s_rmay14_eq, s_rstripes_eq, s_ints_eq, s_rlines10_eq, lr, pr, ro, rt, lm, pm, mt, iQ, hm, wE, z1, z2, z3, z4, z5, anC, neq_conf, eq_conf, neq_acc, p0, hR, bne_self_eq_false, g0, g1, g2, g0', g1', g2', gT, sT, lT, h60, q1, q1', q2, q2', q3, q3', q4, q4', q5, q5', q6, q7, q8, q9, hM, tl, to, tb]))
          repeat' first | apply And.intro | (intro _; kernel_rfl) | kernel_rfl
    · simp at h
  · simp at h
def ksMc : List K := ksAsk
theorem sig_smays (avs : List AV) (H : AH) (h : SigA [.fl true [.n .i64, .n .i64, .n .i64, .n .i64], .fl true ksAsk, .fl true (.n .u64 :: .q :: (List.replicate 8 [K.q, .q, .q, .n .u64, .n .i64]).flatten)] avs H) : s_smays avs = some (.c (.b true)) := by
  obtain ⟨l0, r0, rfl, g0, h1⟩ := sig_g h
  obtain ⟨x1, y1, rfl, k1, g1⟩ := fit_cons g0
  obtain ⟨x2, y2, rfl, k2, g2⟩ := fit_cons g1
  obtain ⟨x3, y3, rfl, k3, g3⟩ := fit_cons g2
  obtain ⟨x4, y4, rfl, k4, g4⟩ := fit_cons g3
  obtain rfl := fit_nil g4
  obtain ⟨h0, rfl, _⟩ := fk_i k1
  obtain ⟨t, rfl, _⟩ := fk_i k2
  obtain ⟨n, rfl, _⟩ := fk_i k3
  obtain ⟨b, rfl, _⟩ := fk_i k4
  obtain ⟨l1, r1, rfl, q0, h2⟩ := sig_g h1
  obtain ⟨k, a, x, c, s, op, d, o, lv, r, rfl, hr, _, _, hs, _⟩ := ask9 q0
  obtain ⟨m, r2, rfl, p0, h3⟩ := sig_g h2
  obtain rfl := sig_nil h3
  have hm : isN m := by
    refine ⟨L2.length p0, (fit_all p0).2.1, ?_⟩
    exact fit_b p0 1 rfl
  rw [s_smays_eq, if_pos ⟨hr, hm, hs.1, hs.2⟩]
end
end Go.Proofs.YtflcjnekmjdckaaGreat
