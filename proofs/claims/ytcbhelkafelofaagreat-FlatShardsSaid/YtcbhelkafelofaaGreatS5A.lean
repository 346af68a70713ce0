/- Layer 11: pieces' bits, and numbers that are joined: contracts and laws -/
import Derived.Test.YtcbhelkafelofaaGreatS2A
import Derived.Test.YtcbhelkafelofaaGreatFl3
import Derived.Test.YtcbhelkafelofaaGreatFr
namespace Go.Proofs.YtcbhelkafelofaaGreat
open Go.Am
set_option linter.unusedSimpArgs false
set_option linter.unusedVariables false
noncomputable section

structure Pc where
  a : BitVec 64
  n : Int
  s : Int
def encP (p : Pc) : List Sc := [.u p.a, .i p.n, .i p.s]
def dcP : List Sc → Option Pc
  | [.u a, .i n, .i s] => some ⟨a, n, s⟩
  | _ => none
theorem dcP_e (p : Pc) : dcP (encP p) = some p := rfl
theorem dcP_d (cs : List Sc) (p : Pc) (h : dcP cs = some p) : cs = encP p := by
  unfold dcP at h
  split at h
  · simp only [Option.some.injEq] at h; subst h; rfl
  · simp at h
theorem encP_l (p : Pc) : (encP p).length = 3 := rfl
def rightB (n s : Int) : Bool := decide (1 ≤ n) && decide (n ≤ 8) && (decide (0 ≤ s) && decide (s ≤ 63))
theorem right_iff {n s : Int} : (rightB n s = true) = (1 ≤ n ∧ n ≤ 8 ∧ 0 ≤ s ∧ s ≤ 63) := by
  simp only [rightB, Bool.and_eq_true, decide_eq_true_eq, and_assoc]
def maskU (n s : Int) : BitVec 64 := if rightB n s = true then onesU 0 (8 * n) else 0#64
theorem ones_n {n : Int} (h : 1 ≤ n ∧ n ≤ 8) : 18446744073709551615#64 >>> (64 - 8 * n).toNat = onesU 0 (8 * n) := by
  refine ofG_ext fun i hi => ?_
  obtain ⟨k, rfl⟩ := Int.eq_ofNat_of_zero_le (by omega : 0 ≤ n)
  have := ones_eq (f := 0) (t := 8 * k) (by omega) (by omega) i hi
  rw [BitVec.shiftLeft_zero] at this
  have e : (64 - 8 * (k : Int)).toNat = 64 - (8 * k - 0) := by omega
  rw [e, this]
  unfold inP
  rw [Bool.eq_iff_iff]; simp
  try omega
theorem mask_bit {n s : Int} {i : Nat} (h : rightB n s = true) (hi : i < 64) : (maskU n s).getLsbD i = decide ((i : Int) < 8 * n) := by
  unfold maskU; rw [if_pos h]; unfold onesU; rw [ofG_get hi]; unfold inP
  rw [Bool.eq_iff_iff]; simp
  try omega
theorem mask_0 {n s : Int} : (maskU n s = 0#64) = (rightB n s = false) := by
  apply propext
  cases h : rightB n s
  · simp [maskU, h]
  · simp only [reduceCtorEq, iff_false]
    intro e
    have h2 := mask_bit (i := 0) h (by decide)
    rw [e] at h2
    rw [right_iff] at h
    rw [decide_eq_true (by omega)] at h2
    simp at h2
def s_smask (args : List AV) : Option AV :=
  match args with
  | [.g [.u a, .i n, .i s]] => some (.c (.u (maskU n s)))
  | _ => none
theorem s_smask_eq {a n s} : s_smask [.g [.u a, .i n, .i s]] = some (.c (.u (maskU n s))) := rfl
set_option maxRecDepth 100000 in
set_option maxHeartbeats 2000000 in
theorem ok_smask : PuOk Tryz.prog 125 s_smask := by
  refine pu_ok (tab := []) hmix TabOk.nil Tryz.func125 rfl Tryz.results125 Tryz.ntmps125 (by kernel_rfl) (by kernel_rfl) ?_
  intro args v h
  unfold s_smask at h
  split at h
  · rename_i a n s
    simp only [Option.some.injEq] at h; subst h
    refine ⟨by simp only [List.length_cons, List.length_nil]; decide, rfl, rfl, ?_⟩
    cases h : rightB n s
    · have h' : ¬ (1 ≤ n ∧ n ≤ 8 ∧ 0 ≤ s ∧ s ≤ 63) := by rw [← right_iff, h]; simp
      (try simp (config := { maxSteps := 10000000 }) only [go_sem, seval, maskU, h]; repeat (simp (disch := omega) only [w64_d, ipos, ineg, dpos, dneg]; try simp (config := { maxSteps := 10000000 }) only [go_sem, seval, maskU, h]))
      repeat' (first
        | (refine cnd_by (fun h => ?_) (fun h => ?_) <;> (try simp only [decide_eq_true_eq, decide_eq_false_iff_not, Bool.not_eq_true', Bool.not_eq_false', Bool.not_eq_true, Bool.not_eq_false, Bool.and_eq_true, beq_iff_eq, beq_eq_false_iff_ne, ne_eq, Bool.or_eq_true] at h) <;> ((try simp (config := { maxSteps := 10000000 }) only [go_sem, seval, h]; repeat (simp (disch := omega) only [w64_d, ipos, ineg, dpos, dneg]; try simp (config := { maxSteps := 10000000 }) only [go_sem, seval, h]))))
        | (refine grd_by (fun h => ?_) (fun h => ?_) <;> (try simp only [decide_eq_true_eq, decide_eq_false_iff_not, Bool.not_eq_true', Bool.not_eq_false', Bool.not_eq_true, Bool.not_eq_false, Bool.and_eq_true, beq_iff_eq, beq_eq_false_iff_ne, ne_eq, Bool.or_eq_true] at h) <;> ((try simp (config := { maxSteps := 10000000 }) only [go_sem, seval, h]; repeat (simp (disch := omega) only [w64_d, ipos, ineg, dpos, dneg]; try simp (config := { maxSteps := 10000000 }) only [go_sem, seval, h]))))
        | (refine grdd_by (fun h => ?_) (fun h => ?_) <;> (try simp only [decide_eq_true_eq, decide_eq_false_iff_not, Bool.not_eq_true', Bool.not_eq_false', Bool.not_eq_true, Bool.not_eq_false, Bool.and_eq_true, beq_iff_eq, beq_eq_false_iff_ne, ne_eq, Bool.or_eq_true] at h) <;> ((try simp (config := { maxSteps := 10000000 }) only [go_sem, seval, h]; repeat (simp (disch := omega) only [w64_d, ipos, ineg, dpos, dneg]; try simp (config := { maxSteps := 10000000 }) only [go_sem, seval, h])))))
      all_goals exfalso
      all_goals omega
    · have h' := h
      rw [right_iff] at h
      have e1 : w64 (8 * n) = 8 * n := w64_of (by omega)
      have e2 : w64 (64 - 8 * n) = 64 - 8 * n := w64_of (by omega)
      have e3 : (BitVec.ofInt 64 (64 - 8 * n)).toNat = (64 - 8 * n).toNat := by rw [BitVec.toNat_ofInt]; omega
      (try simp (config := { maxSteps := 10000000 }) only [go_sem, seval, maskU, h', e1, e2, e3, ones_n ⟨h.1, h.2.1⟩]; repeat (simp (disch := omega) only [w64_d, ipos, ineg, dpos, dneg]; try simp (config := { maxSteps := 10000000 }) only [go_sem, seval, maskU, h', e1, e2, e3, ones_n ⟨h.1, h.2.1⟩]))
  · simp at h
def partU (v : BitVec 64) (n s : Int) : BitVec 64 := if rightB n s = true then cutU v s (8 * n) else 0#64
def s_spart (args : List AV) : Option AV :=
  match args with
  | [.c (.u v), .g [.u a, .i n, .i s]] => some (.c (.u (partU v n s)))
  | _ => none
theorem s_spart_eq {v a n s} : s_spart [.c (.u v), .g [.u a, .i n, .i s]] = some (.c (.u (partU v n s))) := rfl
set_option maxRecDepth 100000 in
set_option maxHeartbeats 2000000 in
theorem ok_spart : PuOk Tryz.prog 91 s_spart := by
  refine pu_ok (tab := [(125, .pu s_smask)]) hmix (TabOk.cons (e := .pu s_smask) ok_smask TabOk.nil) Tryz.func91 rfl Tryz.results91 Tryz.ntmps91 (by kernel_rfl) (by kernel_rfl) ?_
  intro args v h
  unfold s_spart at h
  split at h
  · rename_i v a n s
    simp only [Option.some.injEq] at h; subst h
    refine ⟨by simp only [List.length_cons, List.length_nil]; decide, rfl, rfl, ?_⟩
    cases h : rightB n s
    · (try simp (config := { maxSteps := 10000000 }) only [go_sem, seval, s_smask_eq, mask_0, h, partU]; repeat (simp (disch := omega) only [w64_d, ipos, ineg, dpos, dneg]; try simp (config := { maxSteps := 10000000 }) only [go_sem, seval, s_smask_eq, mask_0, h, partU]))
    · have h' := h
      rw [right_iff] at h
      have e3 : (BitVec.ofInt 64 s).toNat = s.toNat := by rw [BitVec.toNat_ofInt]; omega
      have e4 : v >>> s.toNat &&& maskU n s = cutU v s (8 * n) := by
        rw [← cut_eq, maskU, if_pos h']
        obtain ⟨k, rfl⟩ := Int.eq_ofNat_of_zero_le h.2.2.1
        rw [shiftU_r]; rfl
      (try simp (config := { maxSteps := 10000000 }) only [go_sem, seval, s_smask_eq, mask_0, h', e3, e4, partU]; repeat (simp (disch := omega) only [w64_d, ipos, ineg, dpos, dneg]; try simp (config := { maxSteps := 10000000 }) only [go_sem, seval, s_smask_eq, mask_0, h', e3, e4, partU]))
  · simp at h
def jn1 (out : BitVec 64) (p : Pc) (x : BitVec 64) : BitVec 64 := if rightB p.n p.s = true then putU out p.s (8 * p.n) x else out
def jnU : List Pc → List (BitVec 64) → BitVec 64 → BitVec 64
  | p :: l, x :: r, out => jnU l r (jn1 out p x)
  | _, _, out => out
theorem jn_take : ∀ (l : List Pc) (r : List (BitVec 64)) (k : Nat) (out : BitVec 64) (p : Pc) (x : BitVec 64), l[k]? = some p → r[k]? = some x → jnU (l.take (k + 1)) (r.take (k + 1)) out = jn1 (jnU (l.take k) (r.take k) out) p x := by
  intro l
  induction l with
  | nil => intro r k out p x h; simp at h
  | cons q l ih =>
    intro r k out p x h1 h2
    cases r with
    | nil => simp at h2
    | cons y r =>
      cases k with
      | zero => simp at h1 h2; subst h1; subst h2; simp [jnU]
      | succ k => simp only [List.take_succ_cons, jnU]; exact ih r k _ p x (by simpa using h1) (by simpa using h2)
theorem jn_min : ∀ (l : List Pc) (r : List (BitVec 64)) (out : BitVec 64), jnU (l.take (min l.length r.length)) (r.take (min l.length r.length)) out = jnU l r out := by
  intro l
  induction l with
  | nil => intro r out; simp [jnU]
  | cons q l ih =>
    intro r out
    cases r with
    | nil => simp [jnU]
    | cons y r =>
      simp only [List.length_cons, Nat.add_min_add_right, List.take_succ_cons, jnU]
      exact ih r _
theorem put_join {w n : BitVec 64} {a z : Int} (h : rightB z a = true) : w &&& ~~~(maskU z a <<< a.toNat) ||| (n &&& maskU z a) <<< a.toNat = putU w a (8 * z) n := by
  refine ofG_ext fun i hi => ?_
  have h' := h
  rw [right_iff] at h
  obtain ⟨k, rfl⟩ := Int.eq_ofNat_of_zero_le h.2.2.1
  have hb : ∀ j, (maskU z k).getLsbD j = (decide (j < 64) && decide ((j : Int) < 8 * z)) := fun j => by
    by_cases hj : j < 64
    · rw [mask_bit h' hj, decide_eq_true hj]; rfl
    · rw [decide_eq_false hj, BitVec.getLsbD_of_ge _ _ (by omega)]; rfl
  rw [BitVec.getLsbD_or, BitVec.getLsbD_and, BitVec.getLsbD_not, BitVec.getLsbD_shiftLeft, BitVec.getLsbD_shiftLeft, BitVec.getLsbD_and]
  rw [Int.toNat_natCast]
  unfold inP
  by_cases h1 : i < k
  · rw [decide_eq_true h1, decide_eq_true hi, decide_eq_false (by omega)]; simp
  · have e : bitB n ((i : Int) - (k : Int)) = n.getLsbD (i - k) := by
      rw [show (i : Int) - (k : Int) = ((i - k : Nat) : Int) by omega, bitB_n]
    rw [decide_eq_false h1, decide_eq_true hi, hb, e, decide_eq_true (by omega : i - k < 64)]
    by_cases h2 : (i : Int) < k + 8 * z
    · rw [decide_eq_true (by omega), decide_eq_true (by omega)]; simp
    · rw [decide_eq_false (by omega), decide_eq_false (by omega)]; simp
def s_sjoin (args : List AV) (H : AH) : Option AV :=
  match args with
  | [.c x, .c y] =>
    match slD 3 dcP H x, slD 1 dcU H y with
    | some l, some r => if l.length ≤ 1000000 ∧ r.length ≤ 1000000 then some (.c (.u (jnU l r 0#64))) else none
    | _, _ => none
  | _ => none
theorem s_sjoin_eq {x y : Sc} {H : AH} {l : List Pc} {r : List (BitVec 64)} (h1 : slD 3 dcP H x = some l) (h2 : slD 1 dcU H y = some r) (h3 : l.length ≤ 1000000 ∧ r.length ≤ 1000000) : s_sjoin [.c x, .c y] H = some (.c (.u (jnU l r 0#64))) := by
  simp only [s_sjoin, h1, h2, h3, and_self, if_true]
theorem s_sjoin_inv {args : List AV} {H : AH} {v : AV} (h : s_sjoin args H = some v) : ∃ x y l r, args = [.c x, .c y] ∧ slD 3 dcP H x = some l ∧ slD 1 dcU H y = some r ∧ l.length ≤ 1000000 ∧ r.length ≤ 1000000 ∧ v = .c (.u (jnU l r 0#64)) := by
  unfold s_sjoin at h
  split at h
  · split at h
    · split at h
      · rename_i h1 h2 h3
        simp only [Option.some.injEq] at h
        exact ⟨_, _, _, _, rfl, h1, h2, h3.1, h3.2, h.symm⟩
      · simp at h
    · simp at h
  · simp at h
theorem jn_nil {l : List Pc} {out : BitVec 64} : jnU l [] out = out := by cases l <;> rfl
theorem pc_row {l : List Pc} {k : Nat} {p : Pc} (h : l[k]? = some p) : (l.flatMap encP).drop (k * 3) = encP p ++ (l.drop (k + 1)).flatMap encP := by
  rw [fm_drop encP_l, List.drop_eq_getElem_cons (by rcases Nat.lt_or_ge k l.length with g | g; exact g; rw [List.getElem?_eq_none g] at h; simp at h), List.flatMap_cons]
  rw [List.getElem?_eq_getElem (by rcases Nat.lt_or_ge k l.length with g | g; exact g; rw [List.getElem?_eq_none g] at h; simp at h)] at h
  simp only [Option.some.injEq] at h
  rw [h]
set_option maxRecDepth 100000 in
set_option maxHeartbeats 2000000 in
theorem ok_sjoin : FpOk Tryz.prog 89 (fun args H => (s_sjoin args H).map fun v => (v, H)) := by
  refine fq_ok (s := s_sjoin) (tab := [(125, .pu s_smask)]) hmix (TabOk.cons (e := .pu s_smask) ok_smask TabOk.nil) Tryz.func89 rfl Tryz.results89 Tryz.ntmps89 (by kernel_rfl) (by kernel_rfl) ?_
  intro args H v h hargs hH
  have hinv := s_sjoin_inv h
  obtain ⟨x, y, l, r, rfl, h1, h2, h3, h4, rfl⟩ := hinv
  refine ⟨by simp only [List.length_cons, List.length_nil]; decide, rfl, ?_⟩
  rcases slD_inv dcP_d h1 with ⟨rfl, rfl⟩ | ⟨id, v, rfl, hv, hcs⟩
  · rcases slD_inv dcU_d h2 with ⟨rfl, rfl⟩ | ⟨id2, v2, rfl, hv2, hcs2⟩
    all_goals (try simp (config := { maxSteps := 10000000 }) only [go_sem, seval]; repeat (simp (disch := omega) only [w64_d, ipos, ineg, dpos, dneg]; try simp (config := { maxSteps := 10000000 }) only [go_sem, seval]))
    all_goals rw [arun_loop]
    · exact ⟨Unit, fun _ => ([(14, .c (.i 0)), (13, .c (.i 0)), (5, .c (.u 0#64))], H), fun _ => 0, (), Wk.wk (by simp [lo]) (by simp [Am.get]) (by simp [AV.bel, Sc.bel]) (subH_refl _) hH, fun _ => by (try simp (config := { maxSteps := 10000000 }) only [go_sem, seval, jnU]; repeat (simp (disch := omega) only [w64_d, ipos, ineg, dpos, dneg]; try simp (config := { maxSteps := 10000000 }) only [go_sem, seval, jnU])); exact subH_refl _⟩
    · have e0 : min (0 : Int) (r.length : Int) = 0 := by omega
      exact ⟨Unit, fun _ => ([(14, .c (.i 0)), (13, .c (.i 0)), (5, .c (.u 0#64))], H), fun _ => 0, (), Wk.wk (by simp [lo]) (by simp [Am.get, e0]) (by simp [AV.bel, Sc.bel]) (subH_refl _) hH, fun _ => by (try simp (config := { maxSteps := 10000000 }) only [go_sem, seval, jnU]; repeat (simp (disch := omega) only [w64_d, ipos, ineg, dpos, dneg]; try simp (config := { maxSteps := 10000000 }) only [go_sem, seval, jnU])); exact subH_refl _⟩
  · rcases slD_inv dcU_d h2 with ⟨rfl, rfl⟩ | ⟨id2, v2, rfl, hv2, hcs2⟩
    · have e0 : min (l.length : Int) (0 : Int) = 0 := by omega
      (try simp (config := { maxSteps := 10000000 }) only [go_sem, seval]; repeat (simp (disch := omega) only [w64_d, ipos, ineg, dpos, dneg]; try simp (config := { maxSteps := 10000000 }) only [go_sem, seval]))
      rw [arun_loop]
      exact ⟨Unit, fun _ => ([(14, .c (.i 0)), (13, .c (.i 0)), (5, .c (.u 0#64))], H), fun _ => 0, (), Wk.wk (by simp [lo]) (by simp [Am.get, e0]) (by simp [AV.bel, Sc.bel]) (subH_refl _) hH, fun _ => by (try simp (config := { maxSteps := 10000000 }) only [go_sem, seval, jn_nil]; repeat (simp (disch := omega) only [w64_d, ipos, ineg, dpos, dneg]; try simp (config := { maxSteps := 10000000 }) only [go_sem, seval, jn_nil])); exact subH_refl _⟩
    · have lid : id < H.length := by simp only [List.all_cons, AV.bel, Sc.bel, Bool.and_eq_true, decide_eq_true_eq] at hargs; exact hargs.1
      have lid2 : id2 < H.length := by simp only [List.all_cons, AV.bel, Sc.bel, Bool.and_eq_true, decide_eq_true_eq] at hargs; exact hargs.2.1
      (try simp (config := { maxSteps := 10000000 }) only [go_sem, seval]; repeat (simp (disch := omega) only [w64_d, ipos, ineg, dpos, dneg]; try simp (config := { maxSteps := 10000000 }) only [go_sem, seval]))
      refine arun_for (min l.length r.length) (fun k => ([(0, .c (.sl id 0 v l.length)), (1, .c (.sl id2 0 v2 r.length)), (5, .c (.u (jnU (l.take k) (r.take k) 0#64))), (13, .c (.i (min l.length r.length : Nat))), (14, .c (.i k))], H)) ?_ fun k hk => ?_
      · exact Wk.wk (by simp [lo]) (by simp [Am.get, jnU]; omega) (by simp [AV.bel, Sc.bel, lid, lid2]) (subH_refl _) hH
      · by_cases hlt : k < min l.length r.length
        · obtain ⟨p, hp⟩ : ∃ p, l[k]? = some p := ⟨_, List.getElem?_eq_getElem (by omega)⟩
          obtain ⟨q, hq⟩ : ∃ q, r[k]? = some q := ⟨_, List.getElem?_eq_getElem (by omega)⟩
          have ej := jn_take l r k 0#64 p q hp hq
          have e1 : w64 ((k : Int) + 1) = ((k + 1 : Nat) : Int) := by rw [w64_of (by omega)]; omega
          have g1 := fm_le encP_l (L := l) (k := k) (by omega)
          have g2 := fm_le encU_l (L := r) (k := k) (by omega)
          have g3 := pc_row hp
          have g4 := fm1 (f := encU) (g := Sc.u) (fun _ => rfl) hq
          have g5 := fm_cell encP_l hp (i := 2) (by decide)
          have g6 := fm_cell encP_l hp (i := 1) (by decide)
          rw [← hcs] at g1 g3 g5 g6
          rw [← hcs2] at g2 g4
          have hv := hv.symm
          have hv2 := hv2.symm
          cases hr : rightB p.n p.s
          · (try simp (config := { maxSteps := 10000000 }) only [go_sem, seval, s_smask_eq, hv, hv2, e1, g1, g3, encP, mask_0, hr, List.take_succ_cons, List.take_zero]; repeat (simp (disch := omega) only [w64_d, ipos, ineg, dpos, dneg]; try simp (config := { maxSteps := 10000000 }) only [go_sem, seval, s_smask_eq, hv, hv2, e1, g1, g3, encP, mask_0, hr, List.take_succ_cons, List.take_zero]))
            exact ⟨k + 1, by omega, by omega, Wk.wk (by simp [lo]) (by simp [Am.get, ej, jn1, hr]) (by simp [AV.bel, Sc.bel, lid, lid2]) (subH_refl _) hH⟩
          · have hr' := hr
            rw [right_iff] at hr'
            have e3 : (BitVec.ofInt 64 p.s).toNat = p.s.toNat := by rw [BitVec.toNat_ofInt]; omega
            (try simp (config := { maxSteps := 10000000 }) only [go_sem, seval, s_smask_eq, hv, hv2, e1, g1, g2, g3, g4, g5, encP, mask_0, hr, List.take_succ_cons, List.take_zero, e3, put_join hr]; repeat (simp (disch := omega) only [w64_d, ipos, ineg, dpos, dneg]; try simp (config := { maxSteps := 10000000 }) only [go_sem, seval, s_smask_eq, hv, hv2, e1, g1, g2, g3, g4, g5, encP, mask_0, hr, List.take_succ_cons, List.take_zero, e3, put_join hr]))
            exact ⟨k + 1, by omega, by omega, Wk.wk (by simp [lo]) (by simp [Am.get, ej, jn1, hr]) (by simp [AV.bel, Sc.bel, lid, lid2]) (subH_refl _) hH⟩
        · obtain rfl : k = min l.length r.length := by omega
          have ej := jn_min l r 0#64
          (try simp (config := { maxSteps := 10000000 }) only [go_sem, seval, ej]; repeat (simp (disch := omega) only [w64_d, ipos, ineg, dpos, dneg]; try simp (config := { maxSteps := 10000000 }) only [go_sem, seval, ej]))
          exact subH_refl _


def pcP (a : BitVec 64) (n s : Int) : List Pc := if n ≤ (left a : Int) then [⟨a, n, s⟩] else [⟨a, left a, s⟩, ⟨a + BitVec.ofInt 64 (left a), n - left a, s + 8 * left a⟩]
theorem pcs_P (a : BitVec 64) (n s : Int) : pcs a n s = (pcP a n s).flatMap encP := by unfold pcs pcP; split <;> rfl
theorem pcN_P (a : BitVec 64) (n s : Int) : pcN a n = (pcP a n s).length := by unfold pcN pcP; split <;> rfl
def accP (a b : BitVec 64) (c s : Int) : List Pc := if smB c s = true then (if c = 0 then pcP a s 0 else pcP a c 0 ++ pcP b (s - c) (8 * c)) else []
theorem accL_P (a b : BitVec 64) (c s : Int) : accL a b c s = (accP a b c s).flatMap encP := by
  unfold accL accP
  split
  · split
    · exact pcs_P _ _ _
    · rw [List.flatMap_append, pcs_P, pcs_P]
  · rfl
theorem accN_P (a b : BitVec 64) (c s : Int) : accN a b c s = (accP a b c s).length := by
  unfold accN accP
  split
  · split
    · exact pcN_P _ _ _
    · rw [List.length_append, pcN_P a c 0, pcN_P b (s - c) (8 * c)]
  · rfl
def byteU (a b : BitVec 64) (c i : Int) : BitVec 64 := if 0 < c ∧ c ≤ i then b + BitVec.ofInt 64 (i - c) else a + BitVec.ofInt 64 i
def good (B : Int → BitVec 64) : List Pc → Int → Prop
  | [], _ => True
  | p :: l, m => p.s = 8 * m ∧ 1 ≤ p.n ∧ m + p.n ≤ 8 ∧ p.a = B m ∧ (p.a + BitVec.ofInt 64 (p.n - 1)) / 64#64 = p.a / 64#64 ∧ good B l (m + p.n)
def tot : List Pc → Int
  | [] => 0
  | p :: l => p.n + tot l
theorem tot_app (l r : List Pc) : tot (l ++ r) = tot l + tot r := by
  induction l with
  | nil => simp [tot]
  | cons p l ih => simp only [List.cons_append, tot, ih]; omega
theorem good_app {B : Int → BitVec 64} {l r : List Pc} {m : Int} (h1 : good B l m) (h2 : good B r (m + tot l)) : good B (l ++ r) m := by
  induction l generalizing m with
  | nil => simpa [tot] using h2
  | cons p l ih =>
    obtain ⟨a1, a2, a3, a4, a5, a6⟩ := h1
    refine ⟨a1, a2, a3, a4, a5, ih a6 ?_⟩
    simp only [tot] at h2
    rwa [show m + p.n + tot l = m + (p.n + tot l) by omega]
theorem line_same (a : BitVec 64) (k : Int) (h0 : 0 ≤ k) (hk : k < left a) : (a + BitVec.ofInt 64 k) / 64#64 = a / 64#64 := by
  have ha := a.isLt
  unfold left at hk
  have e0 : (BitVec.ofInt 64 k).toNat = k.toNat := by rw [BitVec.toNat_ofInt]; omega
  have e : (64#64).toNat = 64 := rfl
  apply BitVec.eq_of_toNat_eq
  rw [BitVec.toNat_udiv, BitVec.toNat_udiv, BitVec.toNat_add, e0, e]
  omega
theorem left_al (a : BitVec 64) : left (a + BitVec.ofInt 64 (left a)) = 64 := by
  have ha := a.isLt
  have e0 : (BitVec.ofInt 64 (left a : Int)).toNat = left a := ofI_nat (by unfold left; omega)
  have h : (a + BitVec.ofInt 64 (left a)).toNat % 64 = 0 := by rw [BitVec.toNat_add, e0]; unfold left; omega
  unfold left at h ⊢
  omega
theorem good_pc {B : Int → BitVec 64} {a : BitVec 64} {n m : Int} (hn : 1 ≤ n) (hm : m + n ≤ 8) (h0 : 0 ≤ m) (hB : ∀ j, 0 ≤ j → j < n → B (m + j) = a + BitVec.ofInt 64 j) : good B (pcP a n (8 * m)) m ∧ tot (pcP a n (8 * m)) = n ∧ (pcP a n (8 * m)).length ≤ 2 := by
  have hl : 1 ≤ left a ∧ left a ≤ 64 := by unfold left; omega
  have b0 : a = B m := by
    have := hB 0 (by omega) (by omega)
    rw [Int.add_zero] at this
    rw [this]; exact (BitVec.add_zero _).symm
  unfold pcP
  split
  · rename_i h
    refine ⟨⟨rfl, hn, hm, b0, line_same _ _ (by simp only; omega) (by simp only; omega), trivial⟩, by simp [tot], by simp⟩
  · rename_i h
    refine ⟨⟨rfl, by simp only; omega, by simp only; omega, b0, line_same _ _ (by simp only; omega) (by simp only; omega), by simp only; omega, by simp only; omega, by simp only; omega, ?_, ?_, trivial⟩, by simp only [tot]; omega, by simp⟩
    · simp only; rw [hB _ (by omega) (by omega)]
    · refine line_same _ _ (by simp only; omega) ?_
      simp only; rw [left_al]; omega
theorem good_acc {a b : BitVec 64} {c s : Int} (h : smB c s = true) : good (byteU a b c) (accP a b c s) 0 ∧ tot (accP a b c s) = s ∧ (accP a b c s).length ≤ 4 := by
  have hm : 1 ≤ s ∧ s ≤ 8 ∧ 0 ≤ c ∧ c < s := by simpa [smB] using h
  unfold accP
  rw [if_pos h]
  split
  · rename_i hc
    subst hc
    have := good_pc (B := byteU a b 0) (a := a) (n := s) (m := 0) (by omega) (by omega) (by omega) (fun j h0 h1 => by unfold byteU; rw [if_neg (by omega), Int.zero_add])
    exact ⟨this.1, this.2.1, by have := this.2.2; simp only [Int.mul_zero] at this; omega⟩
  · rename_i hc
    obtain ⟨g1, g2, g3⟩ := good_pc (B := byteU a b c) (a := a) (n := c) (m := 0) (by omega) (by omega) (by omega) (fun j h0 h1 => by unfold byteU; rw [if_neg (by omega), Int.zero_add])
    obtain ⟨k1, k2, k3⟩ := good_pc (B := byteU a b c) (a := b) (n := s - c) (m := c) (by omega) (by omega) (by omega) (fun j h0 h1 => by unfold byteU; rw [if_pos (by omega), show c + j - c = j by omega])
    simp only [Int.mul_zero] at g1 g2 g3
    refine ⟨good_app g1 (by rw [g2, Int.zero_add]; exact k1), by rw [tot_app]; omega, by rw [List.length_append]; omega⟩
theorem part_join {v : BitVec 64} {m n : Int} (h0 : 0 ≤ m) (h1 : 1 ≤ n) (h8 : m + n ≤ 8) (a : BitVec 64) : jn1 (lowU v (8 * m)) ⟨a, n, 8 * m⟩ (partU v n (8 * m)) = lowU v (8 * (m + n)) := by
  have hr : rightB n (8 * m) = true := by rw [right_iff]; omega
  unfold jn1
  rw [if_pos hr, partU, if_pos hr]
  refine BitVec.eq_of_getLsbD_eq fun i hi => ?_
  unfold putU lowU
  rw [ofG_get hi, ofG_get hi, ofG_get hi]
  unfold inP
  by_cases h2 : 8 * m ≤ (i : Int) ∧ (i : Int) < 8 * m + 8 * n
  · rw [if_pos (by simpa using h2)]
    have e : bitB (cutU v (8 * m) (8 * n)) ((i : Int) - 8 * m) = v.getLsbD i := by
      rw [show (i : Int) - 8 * m = ((i - (8 * m).toNat : Nat) : Int) by omega, bitB_n]
      unfold cutU
      rw [ofG_get (by omega), decide_eq_true (by omega), show 8 * m + ((i - (8 * m).toNat : Nat) : Int) = (i : Int) by omega, bitB_n]
      rfl
    rw [e, decide_eq_true (by omega)]; rfl
  · rw [if_neg (by simpa using h2)]
    by_cases h3 : (i : Int) < 8 * m
    · rw [decide_eq_true h3, decide_eq_true (by omega)]
    · rw [decide_eq_false h3, decide_eq_false (by omega)]
theorem low_0 (v : BitVec 64) : lowU v 0 = 0#64 := BitVec.eq_of_getLsbD_eq fun i hi => by unfold lowU; rw [ofG_get hi, decide_eq_false (by omega)]; simp
end
end Go.Proofs.YtcbhelkafelofaaGreat
