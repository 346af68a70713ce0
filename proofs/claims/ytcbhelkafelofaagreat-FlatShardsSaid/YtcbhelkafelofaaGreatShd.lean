/- Layer 14: memory with reservations: contracts -/
import Derived.Test.YtcbhelkafelofaaGreatMem
import Derived.Test.YtcbhelkafelofaaGreatAsk
import Derived.Test.YtcbhelkafelofaaGreatM1
import Derived.Test.YtcbhelkafelofaaGreatKnA
namespace Go.Proofs.YtcbhelkafelofaaGreat
open Go.Am
set_option linter.unusedSimpArgs false
set_option linter.unusedVariables false
noncomputable section

structure ShS where
  id : Nat
  ram : RamS
  h : Int
  t : Int
  b : Int
  R : List Sl
def shC (s : ShS) : List Sc := .p s.ram.id 0 0 :: .i s.h :: .i s.t :: .i s.ram.n :: .i s.b :: tabC s.R
structure ShIs (H : AH) (x : Sc) (s : ShS) : Prop where
  x : x = .p s.id 0 0
  o : hg H s.id = .own (shC s)
  r : RamIs H (.p s.ram.id 0 0) s.ram
  l : s.R.length = 8
  h1 : 1 ≤ s.h ∧ s.h ≤ 8
  t1 : 1 ≤ s.t ∧ s.t ≤ 64
theorem tabC_inj {R S : List Sl} (hR : R.length = 8) (hS : S.length = 8) (h : tabC R = tabC S) : R = S := by
  have a := decN_enc slC_l dcS_e R
  have b := decN_enc slC_l dcS_e S
  rw [hR] at a
  rw [hS] at b
  have c : decN 2 dcS 8 (tabC R) = decN 2 dcS 8 (tabC S) := by rw [h]
  have a' : decN 2 dcS 8 (tabC R) = some R := a
  have b' : decN 2 dcS 8 (tabC S) = some S := b
  rw [a', b'] at c
  simpa using c
theorem ShIs.uniq {H : AH} {x : Sc} {s t : ShS} (h : ShIs H x s) (g : ShIs H x t) : s = t := by
  have h1 := h.x.symm.trans g.x
  simp only [Sc.p.injEq, and_true] at h1
  have h2 := h.o
  rw [h1, g.o] at h2
  simp only [AObj.own.injEq, shC, List.cons.injEq, Sc.p.injEq, Sc.i.injEq, and_true] at h2
  obtain ⟨a, b, c, d, e, f⟩ := h2
  have hr := h.r
  rw [← a] at hr
  have e2 := hr.uniq g.r
  have e3 := tabC_inj g.l h.l f
  cases s
  cases t
  simp only at *
  subst h1 b c e e2 e3
  rfl
def shQ (H : AH) (x : Sc) : Option ShS := open Classical in if h : ∃ s, ShIs H x s then some h.choose else none
theorem shQ_of {H : AH} {x : Sc} {s : ShS} (h : ShIs H x s) : shQ H x = some s := by
  unfold shQ
  have e : ∃ s, ShIs H x s := ⟨s, h⟩
  rw [dif_pos e, ShIs.uniq e.choose_spec h]
theorem shQ_inv {H : AH} {x : Sc} {s : ShS} (h : shQ H x = some s) : ShIs H x s := by
  unfold shQ at h
  split at h
  · rename_i e
    simp only [Option.some.injEq] at h
    rw [← h]; exact e.choose_spec
  · simp at h
theorem ShIs.ne1 {H : AH} {x : Sc} {s : ShS} (h : ShIs H x s) : s.id ≠ s.ram.id := fun e => by
  have h1 := h.o
  rw [e, h.r.o] at h1
  simp [shC] at h1
theorem ShIs.ne2 {H : AH} {x : Sc} {s : ShS} (h : ShIs H x s) : s.id ≠ s.ram.mid := fun e => by
  have h1 := h.o
  rw [e, h.r.m] at h1
  exact AObj.noConfusion h1
theorem ShIs.lid {H : AH} {x : Sc} {s : ShS} (h : ShIs H x s) : s.id < H.length := hg_lt (by rw [h.o]; rfl)
theorem ShIs.app {H : AH} {x : Sc} {s : ShS} (h : ShIs H x s) (X : AH) : ShIs (H ++ X) x s := ⟨h.x, by rw [hg_lt' h.lid]; exact h.o, h.r.app X, h.l, h.h1, h.t1⟩
def ShS.to (s : ShS) (M : Nat × MapE) (R : List Sl) : ShS := ⟨s.id, s.ram.to M, s.h, s.t, s.b, R⟩
def shSet (H : AH) (s : ShS) (M : Nat × MapE) (R : List Sl) : AH := (H.set s.ram.mid (mapO M)).set s.id (.own (shC (s.to M R)))
theorem shSet_len {H : AH} {s : ShS} {M : Nat × MapE} {R : List Sl} : (shSet H s M R).length = H.length := by unfold shSet; simp
theorem ShIs.set {H : AH} {x : Sc} {s : ShS} (h : ShIs H x s) {M : Nat × MapE} {R : List Sl} (hM : wfE s.ram.n M) (hR : R.length = 8) : ShIs (shSet H s M R) x (s.to M R) := by
  refine ⟨h.x, ?_, ?_, hR, h.h1, h.t1⟩
  · show hg (shSet H s M R) s.id = _
    unfold shSet
    rw [hg_set_same (by rw [List.length_set]; exact h.lid)]
  · show RamIs (shSet H s M R) (.p s.ram.id 0 0) (s.ram.to M)
    unfold shSet
    exact (h.r.set hM).other h.ne1 h.ne2
theorem ShIs.self {H : AH} {x : Sc} {s : ShS} (h : ShIs H x s) : shSet H s s.ram.M s.R = H := by
  unfold shSet
  rw [h.r.self]
  exact set_self h.o h.lid
theorem shSet_app {H : AH} {x : Sc} {s : ShS} (h : ShIs H x s) (X : AH) (M : Nat × MapE) (R : List Sl) : shSet (H ++ X) s M R = shSet H s M R ++ X := by
  unfold shSet
  rw [List.set_append_left _ _ h.r.lmid, List.set_append_left _ _ (by rw [List.length_set]; exact h.lid)]
theorem shSet_set {H : AH} {x : Sc} {s : ShS} (h : ShIs H x s) (M M' : Nat × MapE) (R R' : List Sl) : shSet (shSet H s M R) (s.to M R) M' R' = shSet H s M' R' := by
  unfold shSet
  show ((((H.set s.ram.mid (mapO M)).set s.id _).set s.ram.mid (mapO M')).set s.id _) = _
  rw [List.set_comm _ _ h.ne2.symm, List.set_set]
  rw [List.set_comm _ _ h.ne2, List.set_set]
  rfl
theorem shC_bel {H : AH} {x : Sc} {s : ShS} (h : ShIs H x s) (M : Nat × MapE) (R : List Sl) : (AObj.own (shC (s.to M R))).scs.all (Sc.bel H.length) = true := by
  simp only [AObj.scs, shC, ShS.to, RamS.to, List.all_cons, Sc.bel, Bool.true_and, tabC_bel, Bool.and_true, decide_eq_true_eq]
  exact h.r.lid
theorem ShIs.bel {H : AH} {x : Sc} {s : ShS} (h : ShIs H x s) (hH : belH H = true) (M : Nat × MapE) (R : List Sl) : belH (shSet H s M R) = true := by
  unfold shSet
  exact bel_set' (h.r.bel hH) (by rw [List.length_set]; exact shC_bel h M R)
theorem sh_store {H : AH} {x : Sc} {s : ShS} (h : ShIs H x s) {M : Nat × MapE} {R : List Sl} (hM : wfE s.ram.n M) (hR : R.length = 8) (X : AH) {a v : BitVec 64} {n : Int} (hn : ldB (s.ram.to M) a n = true) (hi : inR n) :
    s_rstore10 [.c (.p s.ram.id 0 0), .c (.u a), .c (.i n), .c (.u v)] (shSet H s M R ++ X) = some (.c (.b true), shSet H s (stM M (offN a) n.toNat v) R ++ X) := by
  have g := (h.set hM hR).r.app X
  have e : s_rstore10 [.c (.p s.ram.id 0 0), .c (.u a), .c (.i n), .c (.u v)] (shSet H s M R ++ X) = some (.c (.b (ldB (s.ram.to M) a n)), stH (shSet H s M R ++ X) (s.ram.to M) a n v) := s_rstore10_eq (v := v) g (a := a) hi
  rw [hn] at e
  rw [e]
  unfold stH
  rw [if_pos hn]
  have l2 : s.ram.mid < (shSet H s M R).length := by rw [shSet_len]; exact h.r.lmid
  show some (_, (shSet H s M R ++ X).set s.ram.mid (mapO (stM M (offN a) n.toNat v))) = _
  rw [List.set_append_left _ _ l2]
  unfold shSet
  rw [List.set_comm _ _ h.ne2, List.set_set]
  rfl
theorem sh_tab {H : AH} {x : Sc} {s : ShS} (h : ShIs H x s) {M : Nat × MapE} {R : List Sl} (hM : wfE s.ram.n M) (hR : R.length = 8) (X : AH) : tabQ (shSet H s M R ++ X) (.p s.id 5 0) = some R := by
  have g := ((h.set hM hR).app X).o
  exact tabQ_of (A := [.p s.ram.id 0 0, .i s.h, .i s.t, .i s.ram.n, .i s.b]) (B := []) (by rw [List.append_nil]; exact g) hR
theorem sh_setQ {H : AH} {x : Sc} {s : ShS} (h : ShIs H x s) {M : Nat × MapE} {R : List Sl} (hM : wfE s.ram.n M) (hR : R.length = 8) (X : AH) (S : List Sl) : setQ (shSet H s M R ++ X) (.p s.id 5 0) S = shSet H s M S ++ X := by
  have g := ((h.set hM hR).app X).o
  have := setQ_of (A := [.p s.ram.id 0 0, .i s.h, .i s.t, .i s.ram.n, .i s.b]) (B := []) (S := S) (H := shSet H s M R ++ X) (id := s.id) (by rw [List.append_nil]; exact g) hR
  rw [show ([Sc.p s.ram.id 0 0, .i s.h, .i s.t, .i s.ram.n, .i s.b] : List Sc).length = 5 from rfl] at this
  rw [this, List.append_nil, List.set_append_left _ _ (by rw [shSet_len]; exact h.lid)]
  unfold shSet
  rw [List.set_set]
  rfl

def szA (k op : Int) : Int := if k = 1 then 4 else if k = 7 then 8 else if k = 8 then 8 else if k = 4 then (if isAB op = true then sizeI op else 0) else if k = 5 then (if linkB op = true then sizeI op else 0) else if k = 6 then (if condB op = true then sizeI op else 0) else 0
def p2B (s : Int) : Bool := decide (s = 1) || (decide (s = 2) || (decide (s = 4) || decide (s = 8)))
def formB (k : Int) (a : BitVec 64) (c s op : Int) : Bool := if k = 2 ∨ k = 3 then smB c s && p2B s else decide (¬ szA k op = 0) && (decide (s = szA k op) && (decide (c = 0) && decide (a % BitVec.ofInt 64 (szA k op) = 0#64)))
def mayB (n : Nat) (k : Int) (a b : BitVec 64) (c s op : Int) : Bool := formB k a c s op && (accP a b c s).all fun p => hasB n p.a p.n
theorem ite_le8 {p : Prop} [Decidable p] {a b : Int} (ha : 0 ≤ a ∧ a ≤ 8) (hb : 0 ≤ b ∧ b ≤ 8) : 0 ≤ (if p then a else b) ∧ (if p then a else b) ≤ 8 := by split <;> assumption
theorem size_le (op : Int) : 0 ≤ sizeI op ∧ sizeI op ≤ 8 := by
  unfold sizeI
  repeat' (first | exact ⟨by decide, by decide⟩ | apply ite_le8)
theorem szA_le (k op : Int) : 0 ≤ szA k op ∧ szA k op ≤ 8 := by
  have := size_le op
  unfold szA
  repeat' (first | exact ⟨by decide, by decide⟩ | exact this | apply ite_le8)
theorem p2_and {s : Int} (h : 1 ≤ s ∧ s ≤ 8) : (w64 ((BitVec.ofInt 64 s &&& BitVec.ofInt 64 (s - 1)).toNat) = 0) = (p2B s = true) := by
  obtain ⟨k, rfl⟩ := Int.eq_ofNat_of_zero_le (show 0 ≤ s by omega)
  have : k = 1 ∨ k = 2 ∨ k = 3 ∨ k = 4 ∨ k = 5 ∨ k = 6 ∨ k = 7 ∨ k = 8 := by omega
  rcases this with rfl | rfl | rfl | rfl | rfl | rfl | rfl | rfl
  all_goals decide
theorem ab_i_and {P : Program} {t : Nat} {x y : Int} : abin P .and t (.c (.i x)) (.c (.i y)) = some (.c (.i (w64 ((BitVec.ofInt 64 x &&& BitVec.ofInt 64 y).toNat)))) := rfl
def s_sformed (args : List AV) : Option AV :=
  match args with
  | [.g (.i k :: .u a :: .u b :: .i c :: .i s :: .i op :: .u d :: .u o :: .b lv :: r)] => if r.length = 10 ∧ r.all Sc.pf = true ∧ r.all Sc.one = true then some (.c (.b (formB k a c s op))) else none
  | _ => none
theorem s_sformed_eq {k a b c s op d o lv r} : s_sformed [.g (.i k :: .u a :: .u b :: .i c :: .i s :: .i op :: .u d :: .u o :: .b lv :: r)] = if r.length = 10 ∧ r.all Sc.pf = true ∧ r.all Sc.one = true then some (.c (.b (formB k a c s op))) else none := rfl
set_option maxRecDepth 100000 in
set_option maxHeartbeats 2000000 in
theorem ok_sformed : PuOk Tryz.prog 86 s_sformed := by
  refine pu_ok (tab := [(88, .pu s_saccess), (123, .pu s_smay), (76, .pu s_aisA), (79, .pu s_ksize), (77, .pu s_alink), (78, .pu s_acond)]) hmix (TabOk.cons (e := .pu s_saccess) ok_saccess (TabOk.cons (e := .pu s_smay) ok_smay (TabOk.cons (e := .pu s_aisA) ok_aisA (TabOk.cons (e := .pu s_ksize) ok_ksize (TabOk.cons (e := .pu s_alink) ok_alink (TabOk.cons (e := .pu s_acond) ok_acond TabOk.nil)))))) Tryz.func86 rfl Tryz.results86 Tryz.ntmps86 (by kernel_rfl) (by kernel_rfl) ?_
  intro args v h
  unfold s_sformed at h
  split at h
  · rename_i k a b c s op d o lv r
    split at h
    · rename_i hc
      simp only [Option.some.injEq] at h; subst h
      have pr := hc.2.1
      have lr := hc.1
      refine ⟨by simp only [List.length_cons, List.length_nil]; decide, by first | rfl | simp only [List.all_cons, List.all_nil, AV.pf, Sc.pf, Bool.and_true, *], by first | rfl | simp only [List.all_cons, List.all_nil, AV.pf, Sc.pf, Bool.and_true, *], ?_⟩
      have rt : r.take 10 = r := List.take_of_length_le (by omega)
      have ro := hc.2.2
      have zr := szA_le k op
      have zn : ¬ szA k op = 0 → (BitVec.ofInt 64 (szA k op) = 0#64) = False := fun h => eq_false fun e => by
        have := congrArg BitVec.toNat e
        rw [BitVec.toNat_ofInt] at this
        have e0 : (0#64).toNat = 0 := rfl
        rw [e0] at this
        omega
      have fin : ∀ z, ¬ (k = 2 ∨ k = 3) → szA k op = z → formB k a c s op = (decide (¬ z = 0) && (decide (s = z) && (decide (c = 0) && decide (a % BitVec.ofInt 64 z = 0#64)))) := fun z h1 h2 => by unfold formB; rw [if_neg h1, h2]
      by_cases h2 : k = 2
      · subst h2
        cases hm : smB c s
        · (try simp (config := { maxSteps := 10000000 }) only [go_sem, seval, s_saccess_eq, s_smay_eq, s_aisA_eq, s_ksize_eq, s_alink_eq, s_acond_eq, Sc.pf, lr, rt, ro, pr, hm, formB]; repeat (simp (disch := omega) only [w64_d, ipos, ineg, dpos, dneg]; try simp (config := { maxSteps := 10000000 }) only [go_sem, seval, s_saccess_eq, s_smay_eq, s_aisA_eq, s_ksize_eq, s_alink_eq, s_acond_eq, Sc.pf, lr, rt, ro, pr, hm, formB]))
        · have hm' : 1 ≤ s ∧ s ≤ 8 ∧ 0 ≤ c ∧ c < s := by simpa [smB] using hm
          have e1 : w64 (s - 1) = s - 1 := w64_d (by omega) (by omega)
          have e2 : decide (w64 ((BitVec.ofInt 64 s &&& BitVec.ofInt 64 (s - 1)).toNat) = 0) = p2B s := by simp only [p2_and (s := s) (by omega), Bool.decide_eq_true]
          (try simp (config := { maxSteps := 10000000 }) only [go_sem, seval, s_saccess_eq, s_smay_eq, s_aisA_eq, s_ksize_eq, s_alink_eq, s_acond_eq, Sc.pf, lr, rt, ro, pr, hm, e1, e2, formB, ab_i_and]; repeat (simp (disch := omega) only [w64_d, ipos, ineg, dpos, dneg]; try simp (config := { maxSteps := 10000000 }) only [go_sem, seval, s_saccess_eq, s_smay_eq, s_aisA_eq, s_ksize_eq, s_alink_eq, s_acond_eq, Sc.pf, lr, rt, ro, pr, hm, e1, e2, formB, ab_i_and]))
      by_cases h3 : k = 3
      · subst h3
        cases hm : smB c s
        · (try simp (config := { maxSteps := 10000000 }) only [go_sem, seval, s_saccess_eq, s_smay_eq, s_aisA_eq, s_ksize_eq, s_alink_eq, s_acond_eq, Sc.pf, lr, rt, ro, pr, hm, formB]; repeat (simp (disch := omega) only [w64_d, ipos, ineg, dpos, dneg]; try simp (config := { maxSteps := 10000000 }) only [go_sem, seval, s_saccess_eq, s_smay_eq, s_aisA_eq, s_ksize_eq, s_alink_eq, s_acond_eq, Sc.pf, lr, rt, ro, pr, hm, formB]))
        · have hm' : 1 ≤ s ∧ s ≤ 8 ∧ 0 ≤ c ∧ c < s := by simpa [smB] using hm
          have e1 : w64 (s - 1) = s - 1 := w64_d (by omega) (by omega)
          have e2 : decide (w64 ((BitVec.ofInt 64 s &&& BitVec.ofInt 64 (s - 1)).toNat) = 0) = p2B s := by simp only [p2_and (s := s) (by omega), Bool.decide_eq_true]
          (try simp (config := { maxSteps := 10000000 }) only [go_sem, seval, s_saccess_eq, s_smay_eq, s_aisA_eq, s_ksize_eq, s_alink_eq, s_acond_eq, Sc.pf, lr, rt, ro, pr, hm, e1, e2, formB, ab_i_and]; repeat (simp (disch := omega) only [w64_d, ipos, ineg, dpos, dneg]; try simp (config := { maxSteps := 10000000 }) only [go_sem, seval, s_saccess_eq, s_smay_eq, s_aisA_eq, s_ksize_eq, s_alink_eq, s_acond_eq, Sc.pf, lr, rt, ro, pr, hm, e1, e2, formB, ab_i_and]))
      have fin := fun z => fin z (by omega)
      by_cases h1 : k = 1
      · subst h1
        have hz : szA 1 op = 4 := rfl
        rw [fin _ hz]
        (try simp (config := { maxSteps := 10000000 }) only [go_sem, seval, s_saccess_eq, s_smay_eq, s_aisA_eq, s_ksize_eq, s_alink_eq, s_acond_eq, Sc.pf, lr]; repeat (simp (disch := omega) only [w64_d, ipos, ineg, dpos, dneg]; try simp (config := { maxSteps := 10000000 }) only [go_sem, seval, s_saccess_eq, s_smay_eq, s_aisA_eq, s_ksize_eq, s_alink_eq, s_acond_eq, Sc.pf, lr]))
        repeat' (first
          | (refine cnd_by (fun h => ?_) (fun h => ?_) <;> (try simp only [decide_eq_true_eq, decide_eq_false_iff_not, Bool.not_eq_true', Bool.not_eq_false', Bool.not_eq_true, Bool.not_eq_false, Bool.and_eq_true, beq_iff_eq, beq_eq_false_iff_ne, ne_eq, Bool.or_eq_true] at h) <;> ((try simp (config := { maxSteps := 10000000 }) only [go_sem, seval, h]; repeat (simp (disch := omega) only [w64_d, ipos, ineg, dpos, dneg]; try simp (config := { maxSteps := 10000000 }) only [go_sem, seval, h]))))
          | (refine grd_by (fun h => ?_) (fun h => ?_) <;> (try simp only [decide_eq_true_eq, decide_eq_false_iff_not, Bool.not_eq_true', Bool.not_eq_false', Bool.not_eq_true, Bool.not_eq_false, Bool.and_eq_true, beq_iff_eq, beq_eq_false_iff_ne, ne_eq, Bool.or_eq_true] at h) <;> ((try simp (config := { maxSteps := 10000000 }) only [go_sem, seval, h]; repeat (simp (disch := omega) only [w64_d, ipos, ineg, dpos, dneg]; try simp (config := { maxSteps := 10000000 }) only [go_sem, seval, h]))))
          | (refine grdd_by (fun h => ?_) (fun h => ?_) <;> (try simp only [decide_eq_true_eq, decide_eq_false_iff_not, Bool.not_eq_true', Bool.not_eq_false', Bool.not_eq_true, Bool.not_eq_false, Bool.and_eq_true, beq_iff_eq, beq_eq_false_iff_ne, ne_eq, Bool.or_eq_true] at h) <;> ((try simp (config := { maxSteps := 10000000 }) only [go_sem, seval, h]; repeat (simp (disch := omega) only [w64_d, ipos, ineg, dpos, dneg]; try simp (config := { maxSteps := 10000000 }) only [go_sem, seval, h])))))
        all_goals (simp_all <;> done)
      by_cases h7 : k = 7
      · subst h7
        have hz : szA 7 op = 8 := rfl
        rw [fin _ hz]
        (try simp (config := { maxSteps := 10000000 }) only [go_sem, seval, s_saccess_eq, s_smay_eq, s_aisA_eq, s_ksize_eq, s_alink_eq, s_acond_eq, Sc.pf, lr]; repeat (simp (disch := omega) only [w64_d, ipos, ineg, dpos, dneg]; try simp (config := { maxSteps := 10000000 }) only [go_sem, seval, s_saccess_eq, s_smay_eq, s_aisA_eq, s_ksize_eq, s_alink_eq, s_acond_eq, Sc.pf, lr]))
        repeat' (first
          | (refine cnd_by (fun h => ?_) (fun h => ?_) <;> (try simp only [decide_eq_true_eq, decide_eq_false_iff_not, Bool.not_eq_true', Bool.not_eq_false', Bool.not_eq_true, Bool.not_eq_false, Bool.and_eq_true, beq_iff_eq, beq_eq_false_iff_ne, ne_eq, Bool.or_eq_true] at h) <;> ((try simp (config := { maxSteps := 10000000 }) only [go_sem, seval, h]; repeat (simp (disch := omega) only [w64_d, ipos, ineg, dpos, dneg]; try simp (config := { maxSteps := 10000000 }) only [go_sem, seval, h]))))
          | (refine grd_by (fun h => ?_) (fun h => ?_) <;> (try simp only [decide_eq_true_eq, decide_eq_false_iff_not, Bool.not_eq_true', Bool.not_eq_false', Bool.not_eq_true, Bool.not_eq_false, Bool.and_eq_true, beq_iff_eq, beq_eq_false_iff_ne, ne_eq, Bool.or_eq_true] at h) <;> ((try simp (config := { maxSteps := 10000000 }) only [go_sem, seval, h]; repeat (simp (disch := omega) only [w64_d, ipos, ineg, dpos, dneg]; try simp (config := { maxSteps := 10000000 }) only [go_sem, seval, h]))))
          | (refine grdd_by (fun h => ?_) (fun h => ?_) <;> (try simp only [decide_eq_true_eq, decide_eq_false_iff_not, Bool.not_eq_true', Bool.not_eq_false', Bool.not_eq_true, Bool.not_eq_false, Bool.and_eq_true, beq_iff_eq, beq_eq_false_iff_ne, ne_eq, Bool.or_eq_true] at h) <;> ((try simp (config := { maxSteps := 10000000 }) only [go_sem, seval, h]; repeat (simp (disch := omega) only [w64_d, ipos, ineg, dpos, dneg]; try simp (config := { maxSteps := 10000000 }) only [go_sem, seval, h])))))
        all_goals (simp_all <;> done)
      by_cases h8 : k = 8
      · subst h8
        have hz : szA 8 op = 8 := rfl
        rw [fin _ hz]
        (try simp (config := { maxSteps := 10000000 }) only [go_sem, seval, s_saccess_eq, s_smay_eq, s_aisA_eq, s_ksize_eq, s_alink_eq, s_acond_eq, Sc.pf, lr]; repeat (simp (disch := omega) only [w64_d, ipos, ineg, dpos, dneg]; try simp (config := { maxSteps := 10000000 }) only [go_sem, seval, s_saccess_eq, s_smay_eq, s_aisA_eq, s_ksize_eq, s_alink_eq, s_acond_eq, Sc.pf, lr]))
        repeat' (first
          | (refine cnd_by (fun h => ?_) (fun h => ?_) <;> (try simp only [decide_eq_true_eq, decide_eq_false_iff_not, Bool.not_eq_true', Bool.not_eq_false', Bool.not_eq_true, Bool.not_eq_false, Bool.and_eq_true, beq_iff_eq, beq_eq_false_iff_ne, ne_eq, Bool.or_eq_true] at h) <;> ((try simp (config := { maxSteps := 10000000 }) only [go_sem, seval, h]; repeat (simp (disch := omega) only [w64_d, ipos, ineg, dpos, dneg]; try simp (config := { maxSteps := 10000000 }) only [go_sem, seval, h]))))
          | (refine grd_by (fun h => ?_) (fun h => ?_) <;> (try simp only [decide_eq_true_eq, decide_eq_false_iff_not, Bool.not_eq_true', Bool.not_eq_false', Bool.not_eq_true, Bool.not_eq_false, Bool.and_eq_true, beq_iff_eq, beq_eq_false_iff_ne, ne_eq, Bool.or_eq_true] at h) <;> ((try simp (config := { maxSteps := 10000000 }) only [go_sem, seval, h]; repeat (simp (disch := omega) only [w64_d, ipos, ineg, dpos, dneg]; try simp (config := { maxSteps := 10000000 }) only [go_sem, seval, h]))))
          | (refine grdd_by (fun h => ?_) (fun h => ?_) <;> (try simp only [decide_eq_true_eq, decide_eq_false_iff_not, Bool.not_eq_true', Bool.not_eq_false', Bool.not_eq_true, Bool.not_eq_false, Bool.and_eq_true, beq_iff_eq, beq_eq_false_iff_ne, ne_eq, Bool.or_eq_true] at h) <;> ((try simp (config := { maxSteps := 10000000 }) only [go_sem, seval, h]; repeat (simp (disch := omega) only [w64_d, ipos, ineg, dpos, dneg]; try simp (config := { maxSteps := 10000000 }) only [go_sem, seval, h])))))
        all_goals (simp_all <;> done)
      by_cases h4 : k = 4
      · subst h4
        cases hb : isAB op
        · have hz : szA 4 op = 0 := by simp [szA, hb]
          rw [fin _ hz]
          (try simp (config := { maxSteps := 10000000 }) only [go_sem, seval, s_saccess_eq, s_smay_eq, s_aisA_eq, s_ksize_eq, s_alink_eq, s_acond_eq, Sc.pf, lr, hb]; repeat (simp (disch := omega) only [w64_d, ipos, ineg, dpos, dneg]; try simp (config := { maxSteps := 10000000 }) only [go_sem, seval, s_saccess_eq, s_smay_eq, s_aisA_eq, s_ksize_eq, s_alink_eq, s_acond_eq, Sc.pf, lr, hb]))
        · have hz : szA 4 op = sizeI op := by simp [szA, hb]
          rw [fin _ hz]
          rw [hz] at zn zr
          (try simp (config := { maxSteps := 10000000 }) only [go_sem, seval, s_saccess_eq, s_smay_eq, s_aisA_eq, s_ksize_eq, s_alink_eq, s_acond_eq, Sc.pf, lr, hb]; repeat (simp (disch := omega) only [w64_d, ipos, ineg, dpos, dneg]; try simp (config := { maxSteps := 10000000 }) only [go_sem, seval, s_saccess_eq, s_smay_eq, s_aisA_eq, s_ksize_eq, s_alink_eq, s_acond_eq, Sc.pf, lr, hb]))
          generalize sizeI op = z at *
          by_cases h0 : z = 0
          · (try simp (config := { maxSteps := 10000000 }) only [go_sem, seval, h0]; repeat (simp (disch := omega) only [w64_d, ipos, ineg, dpos, dneg]; try simp (config := { maxSteps := 10000000 }) only [go_sem, seval, h0]))
          have z1 := zn h0
          by_cases e1 : s = z
          all_goals by_cases e2 : c = 0
          all_goals (try simp (config := { maxSteps := 10000000 }) only [go_sem, seval, lr, h0, z1, e1, e2]; repeat (simp (disch := omega) only [w64_d, ipos, ineg, dpos, dneg]; try simp (config := { maxSteps := 10000000 }) only [go_sem, seval, lr, h0, z1, e1, e2]))
      by_cases h5 : k = 5
      · subst h5
        cases hb : linkB op
        · have hz : szA 5 op = 0 := by simp [szA, hb]
          rw [fin _ hz]
          (try simp (config := { maxSteps := 10000000 }) only [go_sem, seval, s_saccess_eq, s_smay_eq, s_aisA_eq, s_ksize_eq, s_alink_eq, s_acond_eq, Sc.pf, lr, hb]; repeat (simp (disch := omega) only [w64_d, ipos, ineg, dpos, dneg]; try simp (config := { maxSteps := 10000000 }) only [go_sem, seval, s_saccess_eq, s_smay_eq, s_aisA_eq, s_ksize_eq, s_alink_eq, s_acond_eq, Sc.pf, lr, hb]))
        · have hz : szA 5 op = sizeI op := by simp [szA, hb]
          rw [fin _ hz]
          rw [hz] at zn zr
          (try simp (config := { maxSteps := 10000000 }) only [go_sem, seval, s_saccess_eq, s_smay_eq, s_aisA_eq, s_ksize_eq, s_alink_eq, s_acond_eq, Sc.pf, lr, hb]; repeat (simp (disch := omega) only [w64_d, ipos, ineg, dpos, dneg]; try simp (config := { maxSteps := 10000000 }) only [go_sem, seval, s_saccess_eq, s_smay_eq, s_aisA_eq, s_ksize_eq, s_alink_eq, s_acond_eq, Sc.pf, lr, hb]))
          generalize sizeI op = z at *
          by_cases h0 : z = 0
          · (try simp (config := { maxSteps := 10000000 }) only [go_sem, seval, h0]; repeat (simp (disch := omega) only [w64_d, ipos, ineg, dpos, dneg]; try simp (config := { maxSteps := 10000000 }) only [go_sem, seval, h0]))
          have z1 := zn h0
          by_cases e1 : s = z
          all_goals by_cases e2 : c = 0
          all_goals (try simp (config := { maxSteps := 10000000 }) only [go_sem, seval, lr, h0, z1, e1, e2]; repeat (simp (disch := omega) only [w64_d, ipos, ineg, dpos, dneg]; try simp (config := { maxSteps := 10000000 }) only [go_sem, seval, lr, h0, z1, e1, e2]))
      by_cases h6 : k = 6
      · subst h6
        cases hb : condB op
        · have hz : szA 6 op = 0 := by simp [szA, hb]
          rw [fin _ hz]
          (try simp (config := { maxSteps := 10000000 }) only [go_sem, seval, s_saccess_eq, s_smay_eq, s_aisA_eq, s_ksize_eq, s_alink_eq, s_acond_eq, Sc.pf, lr, hb]; repeat (simp (disch := omega) only [w64_d, ipos, ineg, dpos, dneg]; try simp (config := { maxSteps := 10000000 }) only [go_sem, seval, s_saccess_eq, s_smay_eq, s_aisA_eq, s_ksize_eq, s_alink_eq, s_acond_eq, Sc.pf, lr, hb]))
        · have hz : szA 6 op = sizeI op := by simp [szA, hb]
          rw [fin _ hz]
          rw [hz] at zn zr
          (try simp (config := { maxSteps := 10000000 }) only [go_sem, seval, s_saccess_eq, s_smay_eq, s_aisA_eq, s_ksize_eq, s_alink_eq, s_acond_eq, Sc.pf, lr, hb]; repeat (simp (disch := omega) only [w64_d, ipos, ineg, dpos, dneg]; try simp (config := { maxSteps := 10000000 }) only [go_sem, seval, s_saccess_eq, s_smay_eq, s_aisA_eq, s_ksize_eq, s_alink_eq, s_acond_eq, Sc.pf, lr, hb]))
          generalize sizeI op = z at *
          by_cases h0 : z = 0
          · (try simp (config := { maxSteps := 10000000 }) only [go_sem, seval, h0]; repeat (simp (disch := omega) only [w64_d, ipos, ineg, dpos, dneg]; try simp (config := { maxSteps := 10000000 }) only [go_sem, seval, h0]))
          have z1 := zn h0
          by_cases e1 : s = z
          all_goals by_cases e2 : c = 0
          all_goals (try simp (config := { maxSteps := 10000000 }) only [go_sem, seval, lr, h0, z1, e1, e2]; repeat (simp (disch := omega) only [w64_d, ipos, ineg, dpos, dneg]; try simp (config := { maxSteps := 10000000 }) only [go_sem, seval, lr, h0, z1, e1, e2]))
      have hz : szA k op = 0 := by simp [szA, *]
      rw [fin _ hz]
      (try simp (config := { maxSteps := 10000000 }) only [go_sem, seval, s_saccess_eq, s_smay_eq, s_aisA_eq, s_ksize_eq, s_alink_eq, s_acond_eq, Sc.pf, lr, h1, h2, h3, h4, h5, h6, h7, h8]; repeat (simp (disch := omega) only [w64_d, ipos, ineg, dpos, dneg]; try simp (config := { maxSteps := 10000000 }) only [go_sem, seval, s_saccess_eq, s_smay_eq, s_aisA_eq, s_ksize_eq, s_alink_eq, s_acond_eq, Sc.pf, lr, h1, h2, h3, h4, h5, h6, h7, h8]))
    · simp at h
  · simp at h

theorem op_makeMap0 {t : Nat} : opnds (.makeMap t none) = [] := rfl
attribute [go_sem] op_makeMap0 Sc.pf

def wiI (n m : Int) : Bool := decide (1 ≤ n) && decide (n ≤ m)
def s_swithin (args : List AV) : Option AV :=
  match args with
  | [.c (.i n), .c (.i m)] => some (.c (.b (wiI n m)))
  | _ => none
theorem s_swithin_eq {n m} : s_swithin [.c (.i n), .c (.i m)] = some (.c (.b (wiI n m))) := rfl
set_option maxRecDepth 100000 in
set_option maxHeartbeats 2000000 in
theorem ok_swithin : PuOk Tryz.prog 82 s_swithin := by
  refine pu_ok (tab := []) hmix TabOk.nil Tryz.func82 rfl Tryz.results82 Tryz.ntmps82 (by kernel_rfl) (by kernel_rfl) ?_
  intro args v h
  unfold s_swithin at h
  split at h
  · rename_i n m
    simp only [Option.some.injEq] at h; subst h
    refine ⟨by simp only [List.length_cons, List.length_nil]; decide, rfl, rfl, ?_⟩
    by_cases h1 : 1 ≤ n
    all_goals (try simp (config := { maxSteps := 10000000 }) only [go_sem, seval, wiI, h1]; repeat (simp (disch := omega) only [w64_d, ipos, ineg, dpos, dneg]; try simp (config := { maxSteps := 10000000 }) only [go_sem, seval, wiI, h1]))
  · simp at h
def rightB14 (h t n b : Int) : Bool := wiI h 8 && (wiI t 64 && (wiI n 4096 && wiI b 32))
def s_sright (args : List AV) : Option AV :=
  match args with
  | [.g [.i h, .i t, .i n, .i b]] => some (.c (.b (rightB14 h t n b)))
  | _ => none
theorem s_sright_eq {h t n b} : s_sright [.g [.i h, .i t, .i n, .i b]] = some (.c (.b (rightB14 h t n b))) := rfl
set_option maxRecDepth 100000 in
set_option maxHeartbeats 2000000 in
theorem ok_sright : PuOk Tryz.prog 44 s_sright := by
  refine pu_ok (tab := [(82, .pu s_swithin)]) hmix (TabOk.cons (e := .pu s_swithin) ok_swithin TabOk.nil) Tryz.func44 rfl Tryz.results44 Tryz.ntmps44 (by kernel_rfl) (by kernel_rfl) ?_
  intro args v h
  unfold s_sright at h
  split at h
  · rename_i h t n b
    simp only [Option.some.injEq] at h; subst h
    refine ⟨by simp only [List.length_cons, List.length_nil]; decide, rfl, rfl, ?_⟩
    cases h1 : wiI h 8
    all_goals cases h2 : wiI t 64
    all_goals cases h3 : wiI n 4096
    all_goals (try simp (config := { maxSteps := 10000000 }) only [go_sem, seval, s_swithin_eq, rightB14, h1, h2, h3]; repeat (simp (disch := omega) only [w64_d, ipos, ineg, dpos, dneg]; try simp (config := { maxSteps := 10000000 }) only [go_sem, seval, s_swithin_eq, rightB14, h1, h2, h3]))
  · simp at h
def s_rnew10 (args : List AV) (H : AH) : Option (AV × AH) :=
  match args with
  | [.c (.i n)] => if wiI n 4096 = true then some (.t [.c (.p (H.length + 1) 0 0), .c (.i 0)], H ++ [.map 0 [], .own [.i n, .mp H.length]]) else some (.t [.c .nilp, .c (.i 1)], H)
  | _ => none
theorem s_rnew10_eq {H : AH} {n : Int} : s_rnew10 [.c (.i n)] H = if wiI n 4096 = true then some (.t [.c (.p (H.length + 1) 0 0), .c (.i 0)], H ++ [.map 0 [], .own [.i n, .mp H.length]]) else some (.t [.c .nilp, .c (.i 1)], H) := rfl
theorem len_rnew10 (args : List AV) (H : AH) (v : AV) (H1 : AH) (h : s_rnew10 args H = some (v, H1)) : H.length ≤ H1.length := by
  unfold s_rnew10 at h
  repeat' split at h
  all_goals simp at h
  all_goals rw [← h.2]
  all_goals simp
set_option maxRecDepth 100000 in
set_option maxHeartbeats 2000000 in
theorem ok_rnew10 : FpOk Tryz.prog 48 s_rnew10 := by
  refine fp_ok (s := s_rnew10) (tab := []) hmix TabOk.nil Tryz.func48 rfl Tryz.results48 Tryz.ntmps48 (by kernel_rfl) (by kernel_rfl) len_rnew10 ?_
  intro args H v H1 h hargs hH
  unfold s_rnew10 at h
  split at h
  · rename_i n
    refine ⟨by simp only [List.length_cons, List.length_nil]; decide, ?_⟩
    by_cases h1 : n < 1
    · rw [if_neg (by unfold wiI; rw [decide_eq_false (by omega)]; simp)] at h
      simp only [Option.some.injEq, Prod.mk.injEq] at h
      obtain ⟨rfl, rfl⟩ := h
      (try simp (config := { maxSteps := 10000000 }) only [go_sem, seval, h1]; repeat (simp (disch := omega) only [w64_d, ipos, ineg, dpos, dneg]; try simp (config := { maxSteps := 10000000 }) only [go_sem, seval, h1]))
      exact fin_fp rfl (subH_refl _) hH (Nat.le_refl _)
    by_cases h2 : 4096 < n
    · rw [if_neg (by unfold wiI; rw [decide_eq_false (show ¬ n ≤ 4096 by omega)]; simp)] at h
      simp only [Option.some.injEq, Prod.mk.injEq] at h
      obtain ⟨rfl, rfl⟩ := h
      (try simp (config := { maxSteps := 10000000 }) only [go_sem, seval, h1, h2]; repeat (simp (disch := omega) only [w64_d, ipos, ineg, dpos, dneg]; try simp (config := { maxSteps := 10000000 }) only [go_sem, seval, h1, h2]))
      exact fin_fp rfl (subH_refl _) hH (Nat.le_refl _)
    · rw [if_pos (by unfold wiI; rw [decide_eq_true (by omega), decide_eq_true (by omega)]; rfl)] at h
      simp only [Option.some.injEq, Prod.mk.injEq] at h
      obtain ⟨rfl, rfl⟩ := h
      (try simp (config := { maxSteps := 10000000 }) only [go_sem, seval, h1, h2]; repeat (simp (disch := omega) only [w64_d, ipos, ineg, dpos, dneg]; try simp (config := { maxSteps := 10000000 }) only [go_sem, seval, h1, h2]))
      exact fin_fp (by simp [AV.bel, Sc.bel]) (subH_refl _) (belH_app hH (by simp only [List.mem_cons, List.not_mem_nil, or_false, forall_eq_or_imp, forall_eq]; exact ⟨rfl, by simp [AObj.scs, Sc.bel]⟩)) (by simp)
  · simp at h
def nwS (L : Nat) (h t n b : Int) : ShS := ⟨L + 3, ⟨L + 2, L + 1, n.toNat, (0, [])⟩, h, t, b, List.replicate 8 z0⟩
def nwH (L : Nat) (h t n b : Int) : AH := [.dead, .map 0 [], .own [.i n, .mp (L + 1)], .own (shC (nwS L h t n b))]
theorem nwIs {H : AH} {h t n b : Int} (hr : rightB14 h t n b = true) : ShIs (H ++ nwH H.length h t n b) (.p (H.length + 3) 0 0) (nwS H.length h t n b) := by
  simp only [rightB14, wiI, Bool.and_eq_true, decide_eq_true_eq] at hr
  have g : ∀ k, hg (H ++ nwH H.length h t n b) (H.length + k) = hg (nwH H.length h t n b) k := fun k => hg_len_add
  refine ⟨rfl, g 3, ⟨rfl, ?_, g 1, ⟨List.nodup_nil, fun e he => by simp [nwS] at he⟩, ?_, ?_⟩, rfl, by simp only [nwS]; omega, by simp only [nwS]; omega⟩
  · show hg (H ++ nwH H.length h t n b) (H.length + 2) = .own [.i ((n.toNat : Nat) : Int), .mp (H.length + 1)]
    rw [g 2, Int.toNat_of_nonneg (by omega)]; rfl
  · show 1 ≤ n.toNat; omega
  · show n.toNat ≤ 4096; omega
theorem nw_bel {H : AH} (hH : belH H = true) {h t n b : Int} : belH (H ++ nwH H.length h t n b) = true := by
  refine belH_app hH ?_
  unfold nwH
  simp only [List.mem_cons, List.not_mem_nil, or_false, forall_eq_or_imp, forall_eq]
  refine ⟨rfl, rfl, by simp [AObj.scs, Sc.bel], ?_⟩
  simp only [AObj.scs, shC, nwS, List.all_cons, Sc.bel, Bool.true_and, tabC_bel, Bool.and_true, decide_eq_true_eq]
  simp
def s_snew (args : List AV) (H : AH) : Option (AV × AH) :=
  match args with
  | [.g [.i h, .i t, .i n, .i b]] => if rightB14 h t n b = true then some (.t [.c (.p (H.length + 3) 0 0), .c (.i 0)], H ++ nwH H.length h t n b) else some (.t [.c .nilp, .c (.i 1)], H)
  | _ => none
theorem s_snew_eq {H : AH} {h t n b : Int} : s_snew [.g [.i h, .i t, .i n, .i b]] H = if rightB14 h t n b = true then some (.t [.c (.p (H.length + 3) 0 0), .c (.i 0)], H ++ nwH H.length h t n b) else some (.t [.c .nilp, .c (.i 1)], H) := rfl
theorem len_snew (args : List AV) (H : AH) (v : AV) (H1 : AH) (h : s_snew args H = some (v, H1)) : H.length ≤ H1.length := by
  unfold s_snew at h
  repeat' split at h
  all_goals simp at h
  all_goals rw [← h.2]
  all_goals simp
set_option maxRecDepth 100000 in
set_option maxHeartbeats 2000000 in
theorem ok_snew : FpOk Tryz.prog 23 s_snew := by
  refine fp_ok (s := s_snew) (tab := [(44, .pu s_sright), (48, .fp s_rnew10)]) hmix (TabOk.cons (e := .pu s_sright) ok_sright (TabOk.cons (e := .fp s_rnew10) ok_rnew10 TabOk.nil)) Tryz.func23 rfl Tryz.results23 Tryz.ntmps23 (by kernel_rfl) (by kernel_rfl) len_snew ?_
  intro args H v H1 h hargs hH
  unfold s_snew at h
  split at h
  · rename_i h0 t n b
    refine ⟨by simp only [List.length_cons, List.length_nil]; decide, ?_⟩
    cases hr : rightB14 h0 t n b
    · rw [if_neg (by simp [hr])] at h
      simp only [Option.some.injEq, Prod.mk.injEq] at h
      obtain ⟨rfl, rfl⟩ := h
      (try simp (config := { maxSteps := 10000000 }) only [go_sem, seval, s_sright_eq, s_rnew10_eq, hr]; repeat (simp (disch := omega) only [w64_d, ipos, ineg, dpos, dneg]; try simp (config := { maxSteps := 10000000 }) only [go_sem, seval, s_sright_eq, s_rnew10_eq, hr]))
      exact fin_fp rfl (subH_app _ _) hH (Nat.le_refl _)
    · rw [if_pos hr] at h
      simp only [Option.some.injEq, Prod.mk.injEq] at h
      obtain ⟨rfl, rfl⟩ := h
      have hn : wiI n 4096 = true := by simp only [rightB14, Bool.and_eq_true] at hr; exact hr.2.2.1
      have n0 : ((n.toNat : Nat) : Int) = n := by simp only [wiI, Bool.and_eq_true, decide_eq_true_eq] at hn; omega
      have bb := nw_bel (h := h0) (t := t) (n := n) (b := b) hH
      (try simp (config := { maxSteps := 10000000 }) only [go_sem, seval, s_sright_eq, s_rnew10_eq, hr, hn]; repeat (simp (disch := omega) only [w64_d, ipos, ineg, dpos, dneg]; try simp (config := { maxSteps := 10000000 }) only [go_sem, seval, s_sright_eq, s_rnew10_eq, hr, hn]))
      refine fin_fp (by simp [AV.bel, Sc.bel, nwH]) ?_ bb (by simp)
      refine subH_pre _ ⟨.inl rfl, .inr rfl, .inr rfl, .inr ?_, trivial⟩
      unfold nwS shC
      rw [n0]; rfl
  · simp at h
def s_smay14 (args : List AV) (H : AH) : Option AV :=
  match args with
  | [.c x, .g (.i k :: .u a :: .u b :: .i c :: .i s :: .i op :: .u d :: .u o :: .b lv :: r)] =>
    if askR r then
      match x with
      | .nilp => some (.c (.b false))
      | x => (shQ H x).map fun z => .c (.b (mayB z.ram.n k a b c s op))
    else none
  | _ => none
theorem s_smay14_nil {H : AH} {k : Int} {a b : BitVec 64} {c s op : Int} {d o : BitVec 64} {lv : Bool} {r : List Sc} (h : askR r) : s_smay14 [.c .nilp, .g (.i k :: .u a :: .u b :: .i c :: .i s :: .i op :: .u d :: .u o :: .b lv :: r)] H = some (.c (.b false)) := by simp only [s_smay14, h, if_true]
theorem s_smay14_eq {H : AH} {x : Sc} {z : ShS} {k : Int} {a b : BitVec 64} {c s op : Int} {d o : BitVec 64} {lv : Bool} {r : List Sc} (hz : ShIs H x z) (h : askR r) : s_smay14 [.c x, .g (.i k :: .u a :: .u b :: .i c :: .i s :: .i op :: .u d :: .u o :: .b lv :: r)] H = some (.c (.b (mayB z.ram.n k a b c s op))) := by
  have hx := hz.x
  subst hx
  simp only [s_smay14, h, if_true, shQ_of hz, Option.map_some]
theorem p2_sm {k : Int} {a b : BitVec 64} {c s op : Int} (h : formB k a c s op = true) : smB c s = true := by
  unfold formB at h
  split at h
  · rw [Bool.and_eq_true] at h; exact h.1
  · simp only [Bool.and_eq_true, decide_eq_true_eq] at h
    obtain ⟨h1, h2, h3, _⟩ := h
    have := szA_le k op
    simp [smB]
    omega
theorem pc_inR {B : Int → BitVec 64} {l : List Pc} {m : Int} (h : gd2 B l m) (h0 : 0 ≤ m) {k : Nat} {p : Pc} (hp : l[k]? = some p) : 1 ≤ p.n ∧ p.n ≤ 8 := by
  induction l generalizing m k with
  | nil => simp at hp
  | cons q l ih =>
    obtain ⟨a1, a2, a3, a4, a6⟩ := h
    cases k with
    | zero =>
      simp only [List.getElem?_cons_zero, Option.some.injEq] at hp
      subst hp
      exact ⟨a2, by omega⟩
    | succ k => exact ih a6 (by omega) (by simpa using hp)
theorem encPb {l : List Pc} {n : Nat} : (l.flatMap encP).all (Sc.bel n) = true := by rw [List.all_flatMap]; exact List.all_eq_true.2 fun _ _ => rfl
set_option maxRecDepth 100000 in
set_option maxHeartbeats 2000000 in
theorem ok_smay14 : FpOk Tryz.prog 49 (fun args H => (s_smay14 args H).map fun v => (v, H)) := by
  refine fq_ok (s := s_smay14) (tab := [(86, .pu s_sformed), (88, .pu s_saccess), (87, .fp s_pieces), (58, .fq s_rhas10)]) hmix (TabOk.cons (e := .pu s_sformed) ok_sformed (TabOk.cons (e := .pu s_saccess) ok_saccess (TabOk.cons (e := .fp s_pieces) ok_pieces (TabOk.cons (e := .fq s_rhas10) ok_rhas10 TabOk.nil)))) Tryz.func49 rfl Tryz.results49 Tryz.ntmps49 (by kernel_rfl) (by kernel_rfl) ?_
  intro args H v h hargs hH
  unfold s_smay14 at h
  split at h
  · rename_i x k a b c s op d o lv r
    split at h
    · rename_i hr
      obtain ⟨lr, pr, ro⟩ := hr
      have rt : r.take 10 = r := List.take_of_length_le (by omega)
      refine ⟨by simp only [List.length_cons, List.length_nil]; decide, ?_, ?_⟩
      · split at h
        · simp only [Option.some.injEq] at h; subst h; rfl
        · rw [Option.map_eq_some_iff] at h; obtain ⟨z, _, rfl⟩ := h; rfl
      split at h
      · simp only [Option.some.injEq] at h; subst h
        (try simp (config := { maxSteps := 10000000 }) only [go_sem, seval]; repeat (simp (disch := omega) only [w64_d, ipos, ineg, dpos, dneg]; try simp (config := { maxSteps := 10000000 }) only [go_sem, seval]))
        exact subH_app _ _
      · rename_i hx
        rw [Option.map_eq_some_iff] at h
        obtain ⟨z, hz, rfl⟩ := h
        have hS := shQ_inv hz
        have lid := hS.lid
        have oX := fun X => (hS.app X).o
        have hp := fun X a n hn => s_rhas10_eq (a := a) (n := n) (hS.app X).r hn
        obtain ⟨rfl, -⟩ := hS
        cases hf : formB k a c s op
        · have e : mayB z.ram.n k a b c s op = false := by unfold mayB; rw [hf]; rfl
          rw [e]
          (try simp (config := { maxSteps := 10000000 }) only [go_sem, seval, s_sformed_eq, s_saccess_eq, s_pieces_eq, s_rhas10_eq, lr, pr, ro, rt, hf]; repeat (simp (disch := omega) only [w64_d, ipos, ineg, dpos, dneg]; try simp (config := { maxSteps := 10000000 }) only [go_sem, seval, s_sformed_eq, s_saccess_eq, s_pieces_eq, s_rhas10_eq, lr, pr, ro, rt, hf]))
          exact subH_app _ _
        · have hm := p2_sm (b := b) hf
          have e : mayB z.ram.n k a b c s op = (accP a b c s).all fun p => hasB z.ram.n p.a p.n := by unfold mayB; rw [hf]; rfl
          rw [e]
          have eL := accL_P a b c s
          have eN := accN_P a b c s
          have g := gd2_acc (a := a) (b := b) hm
          have l4 := (good_acc (a := a) (b := b) hm).2.2
          generalize accP a b c s = l at *
          (try simp (config := { maxSteps := 10000000 }) only [go_sem, seval, s_sformed_eq, s_saccess_eq, s_pieces_eq, s_rhas10_eq, lr, pr, ro, rt, hf, hm, eL, eN]; repeat (simp (disch := omega) only [w64_d, ipos, ineg, dpos, dneg]; try simp (config := { maxSteps := 10000000 }) only [go_sem, seval, s_sformed_eq, s_saccess_eq, s_pieces_eq, s_rhas10_eq, lr, pr, ro, rt, hf, hm, eL, eN]))
          have fl : (l.flatMap encP).length = 3 * l.length := by rw [fm_len encP_l, Nat.mul_comm]
          have bb : belH (H ++ [.dead, .dead, .vec 3 (l.flatMap encP)]) = true := belH_app hH (by simp only [List.mem_cons, List.not_mem_nil, or_false, forall_eq_or_imp, forall_eq]; exact ⟨rfl, rfl, encPb⟩)
          have hP : ∀ k p, l[k]? = some p → (hasB z.ram.n p.a p.n = false → (l.all fun p => hasB z.ram.n p.a p.n) = false) ∧ ((l.take (k + 1)).all fun p => hasB z.ram.n p.a p.n) = (((l.take k).all fun p => hasB z.ram.n p.a p.n) && hasB z.ram.n p.a p.n) := fun k p hp => by
            refine ⟨fun h => List.all_eq_false.2 ⟨p, List.mem_of_getElem? hp, by simp [h]⟩, ?_⟩
            rw [List.take_add_one, hp, List.all_append]; simp
          rw [arun_loop]
          refine ⟨{k : Nat // k ≤ l.length ∧ ((l.take k).all fun p => hasB z.ram.n p.a p.n) = true}, fun k => ([(0, .c (.p z.id 0 0)), (16, .c (.sl (H.length + 2) 0 (3 * l.length) l.length)), (17, .c (.i l.length)), (18, .c (.i k.1))], H ++ [.dead, .dead, .vec 3 (l.flatMap encP)]), fun k => l.length - k.1, ⟨0, by omega, rfl⟩, ?_, ?_⟩
          · exact Wk.wk (by simp [lo]) (by simp [Am.get]) (by simp [AV.bel, Sc.bel]; omega) (subH_pre _ ⟨.inl rfl, .inl rfl, .inr rfl, trivial⟩) bb
          · rintro ⟨k, hk, hok⟩
            by_cases hlt : k < l.length
            · obtain ⟨p, hp1⟩ : ∃ p, l[k]? = some p := ⟨_, List.getElem?_eq_getElem hlt⟩
              have e1 : w64 ((k : Int) + 1) = ((k + 1 : Nat) : Int) := by rw [w64_d (by omega) (by omega)]; omega
              have g1 := fm_le encP_l (L := l) (k := k) hlt
              have g3 := pc_row hp1
              rw [fl] at g1
              obtain ⟨n1, n8⟩ := pc_inR g (by omega) hp1
              have q := fun X => hp X p.a p.n ⟨by omega, by omega⟩
              obtain ⟨c1, c2⟩ := hP k p hp1
              cases hb : hasB z.ram.n p.a p.n
              · have c3 := c1 hb
                (try simp (config := { maxSteps := 10000000 }) only [go_sem, seval, s_sformed_eq, s_saccess_eq, s_pieces_eq, s_rhas10_eq, e1, g1, g3, encP, fl, shC, oX, q, hb, c3, List.take_succ_cons, List.take_zero]; repeat (simp (disch := omega) only [w64_d, ipos, ineg, dpos, dneg]; try simp (config := { maxSteps := 10000000 }) only [go_sem, seval, s_sformed_eq, s_saccess_eq, s_pieces_eq, s_rhas10_eq, e1, g1, g3, encP, fl, shC, oX, q, hb, c3, List.take_succ_cons, List.take_zero]))
                exact subH_app _ _
              · rw [hok, hb] at c2
                (try simp (config := { maxSteps := 10000000 }) only [go_sem, seval, s_sformed_eq, s_saccess_eq, s_pieces_eq, s_rhas10_eq, e1, g1, g3, encP, fl, shC, oX, q, hb, List.take_succ_cons, List.take_zero]; repeat (simp (disch := omega) only [w64_d, ipos, ineg, dpos, dneg]; try simp (config := { maxSteps := 10000000 }) only [go_sem, seval, s_sformed_eq, s_saccess_eq, s_pieces_eq, s_rhas10_eq, e1, g1, g3, encP, fl, shC, oX, q, hb, List.take_succ_cons, List.take_zero]))
                exact ⟨⟨k + 1, by omega, by rw [c2]; rfl⟩, by simp only; omega, Wk.wk (by simp [lo]) (by simp [Am.get]) (by simp [AV.bel, Sc.bel]; omega) (subH_pre _ ⟨.inl rfl, .inl rfl, .inr rfl, trivial⟩) bb⟩
            · obtain rfl : k = l.length := by omega
              rw [List.take_length] at hok
              (try simp (config := { maxSteps := 10000000 }) only [go_sem, seval, hok]; repeat (simp (disch := omega) only [w64_d, ipos, ineg, dpos, dneg]; try simp (config := { maxSteps := 10000000 }) only [go_sem, seval, hok]))
              exact subH_app _ _
    · simp at h
  · simp at h

def s_sget14 (args : List AV) (H : AH) : Option AV :=
  match args with
  | [.c x, .g (.i k :: .u a :: .u b :: .i c :: .i s :: .i op :: .u d :: .u o :: .b lv :: r)] =>
    match shQ H x with
    | some z => if askR r ∧ mayB z.ram.n k a b c s op = true then some (.c (.u (getA z.ram.M.2 (byteU a b c) s))) else none
    | none => none
  | _ => none
theorem s_sget14_eq {H : AH} {x : Sc} {z : ShS} {k : Int} {a b : BitVec 64} {c s op : Int} {d o : BitVec 64} {lv : Bool} {r : List Sc} (hz : ShIs H x z) (h : askR r) (hm : mayB z.ram.n k a b c s op = true) : s_sget14 [.c x, .g (.i k :: .u a :: .u b :: .i c :: .i s :: .i op :: .u d :: .u o :: .b lv :: r)] H = some (.c (.u (getA z.ram.M.2 (byteU a b c) s))) := by
  simp only [s_sget14, shQ_of hz]
  rw [if_pos ⟨h, hm⟩]
theorem may_all {n : Nat} {k : Int} {a b : BitVec 64} {c s op : Int} (h : mayB n k a b c s op = true) : smB c s = true ∧ ∀ p ∈ accP a b c s, hasB n p.a p.n = true := by
  unfold mayB at h
  rw [Bool.and_eq_true] at h
  exact ⟨p2_sm (b := b) h.1, fun p hp => List.all_eq_true.1 h.2 p hp⟩
def vP (P : List (BitVec 64)) (k : Nat) : List (BitVec 64) := P.take k ++ List.replicate (P.length - k) 0#64
theorem vP_len {P : List (BitVec 64)} {k : Nat} (h : k ≤ P.length) : (vP P k).length = P.length := by unfold vP; rw [List.length_append, List.length_take, List.length_replicate]; omega
theorem vP_set {P : List (BitVec 64)} {k : Nat} {x : BitVec 64} (h : P[k]? = some x) : (vP P k).set k x = vP P (k + 1) := by
  have hk : k < P.length := by
    rcases Nat.lt_or_ge k P.length with g | g
    · exact g
    · rw [List.getElem?_eq_none g] at h; simp at h
  unfold vP
  rw [List.set_append_right _ _ (by rw [List.length_take]; omega), List.length_take, Nat.min_eq_left (by omega), Nat.sub_self, List.take_add_one, h]
  rw [show P.length - k = (P.length - (k + 1)) + 1 by omega, List.replicate_succ, List.set_cons_zero]
  simp
theorem vP_all {P : List (BitVec 64)} : vP P P.length = P := by unfold vP; simp
theorem vP_0 {P : List (BitVec 64)} : (vP P 0).flatMap encU = (List.replicate P.length [Sc.u 0#64]).flatten := by
  unfold vP
  rw [List.take_zero, List.nil_append, Nat.sub_zero]
  generalize P.length = n
  induction n with
  | zero => rfl
  | succ n ih => rw [List.replicate_succ, List.replicate_succ, List.flatMap_cons, List.flatten_cons, ih]; rfl
theorem encU_bel {l : List (BitVec 64)} {n : Nat} : (l.flatMap encU).all (Sc.bel n) = true := by rw [List.all_flatMap]; exact List.all_eq_true.2 fun _ _ => rfl
set_option maxRecDepth 100000 in
set_option maxHeartbeats 2000000 in
theorem ok_sget14 : FpOk Tryz.prog 50 (fun args H => (s_sget14 args H).map fun v => (v, H)) := by
  refine fq_ok (s := s_sget14) (tab := [(88, .pu s_saccess), (87, .fp s_pieces), (28, .fq s_rload10), (89, .fq s_sjoin)]) hmix (TabOk.cons (e := .pu s_saccess) ok_saccess (TabOk.cons (e := .fp s_pieces) ok_pieces (TabOk.cons (e := .fq s_rload10) ok_rload10 (TabOk.cons (e := .fq s_sjoin) ok_sjoin TabOk.nil)))) Tryz.func50 rfl Tryz.results50 Tryz.ntmps50 (by kernel_rfl) (by kernel_rfl) ?_
  intro args H v h hargs hH
  unfold s_sget14 at h
  split at h
  · rename_i x k a b c s op d o lv r
    split at h
    · rename_i z hz
      split at h
      · rename_i hc
        obtain ⟨⟨lr, pr, ro⟩, hmay⟩ := hc
        simp only [Option.some.injEq] at h; subst h
        have rt : r.take 10 = r := List.take_of_length_le (by omega)
        refine ⟨by simp only [List.length_cons, List.length_nil]; decide, rfl, ?_⟩
        have hS := shQ_inv hz
        have lid := hS.lid
        have n2 := hS.r.n2
        have oX := fun X => (hS.app X).o
        have hp := fun X a n hn => s_rload10_eq (a := a) (n := n) (hS.app X).r hn
        obtain ⟨rfl, -⟩ := hS
        obtain ⟨hm, hall⟩ := may_all hmay
        rw [← get_acc (E := z.ram.M.2) n2 hm hall]
        have eL := accL_P a b c s
        have eN := accN_P a b c s
        have g := gd2_acc (a := a) (b := b) hm
        have l4 := (good_acc (a := a) (b := b) hm).2.2
        generalize accP a b c s = l at *
        have hPl : (partsA z.ram.M.2 l).length = l.length := List.length_map ..
        have hPk : ∀ (k : Nat) (p : Pc), l[k]? = some p → (partsA z.ram.M.2 l)[k]? = some (rdB (memB z.ram.M.2) (offN p.a) p.n.toNat) := fun k p h => by unfold partsA; rw [List.getElem?_map, h]; rfl
        generalize partsA z.ram.M.2 l = P at *
        have fl : (l.flatMap encP).length = 3 * l.length := by rw [fm_len encP_l, Nat.mul_comm]
        have m1 : (l.length : Int) ≤ 1048576 := by omega
        have m0 := vP_0 (P := P)
        rw [hPl] at m0
        have bb : ∀ k, belH (H ++ [.dead, .dead, .vec 3 (l.flatMap encP), .vec 1 ((vP P k).flatMap encU)]) = true := fun k => belH_app hH (by simp only [List.mem_cons, List.not_mem_nil, or_false, forall_eq_or_imp, forall_eq]; exact ⟨rfl, rfl, encPb, encU_bel⟩)
        (try simp (config := { maxSteps := 10000000 }) only [go_sem, seval, s_saccess_eq, s_pieces_eq, s_rload10_eq, s_sjoin_eq, lr, pr, ro, rt, hm, eL, eN, m1, ← m0, Int.toNat_natCast]; repeat (simp (disch := omega) only [w64_d, ipos, ineg, dpos, dneg]; try simp (config := { maxSteps := 10000000 }) only [go_sem, seval, s_saccess_eq, s_pieces_eq, s_rload10_eq, s_sjoin_eq, lr, pr, ro, rt, hm, eL, eN, m1, ← m0, Int.toNat_natCast]))
        refine arun_for l.length (fun k => ([(0, .c (.p z.id 0 0)), (5, .c (.sl (H.length + 2) 0 (3 * l.length) l.length)), (6, .c (.sl (H.length + 3) 0 l.length l.length)), (15, .c (.sl (H.length + 2) 0 (3 * l.length) l.length)), (16, .c (.i l.length)), (17, .c (.i k))], H ++ [.dead, .dead, .vec 3 (l.flatMap encP), .vec 1 ((vP P k).flatMap encU)])) ?_ fun k hk => ?_
        · exact Wk.wk (by simp [lo]) (by simp [Am.get]) (by simp [AV.bel, Sc.bel]; omega) (subH_pre _ ⟨.inl rfl, .inl rfl, .inr rfl, .inr rfl, trivial⟩) (bb 0)
        · have vl : ((vP P k).flatMap encU).length = l.length := by rw [fm_len encU_l, Nat.mul_one, vP_len (by omega), hPl]
          by_cases hlt : k < l.length
          · obtain ⟨p, hp1⟩ : ∃ p, l[k]? = some p := ⟨_, List.getElem?_eq_getElem hlt⟩
            have e1 : w64 ((k : Int) + 1) = ((k + 1 : Nat) : Int) := by rw [w64_d (by omega) (by omega)]; omega
            have g1 := fm_le encP_l (L := l) (k := k) hlt
            have g3 := pc_row hp1
            rw [fl] at g1
            obtain ⟨n1, n8⟩ := pc_inR g (by omega) hp1
            have hb := hall p (List.mem_of_getElem? hp1)
            have q := fun X => hp X p.a p.n ⟨by omega, by omega⟩
            have hld : ldB z.ram p.a p.n = true := by unfold ldB; rw [hb, decide_eq_true (by omega)]; rfl
            have hlu : ldU z.ram p.a p.n = rdB (memB z.ram.M.2) (offN p.a) p.n.toNat := by unfold ldU; rw [if_pos hld]
            have hx := hPk k p hp1
            rw [← hlu] at hx
            have w1 : wr ((vP P k).flatMap encU) k [.u (ldU z.ram p.a p.n)] = (vP P (k + 1)).flatMap encU := by
              have := wr_fm encU_l (L := vP P k) (k := k) (x := ldU z.ram p.a p.n) (by rw [vP_len (by omega)]; omega)
              rw [Nat.mul_one] at this
              rw [← vP_set hx]; exact this
            have k1 : k + 1 ≤ l.length := hlt
            (try simp (config := { maxSteps := 10000000 }) only [go_sem, seval, s_saccess_eq, s_pieces_eq, s_rload10_eq, s_sjoin_eq, e1, g1, g3, encP, fl, vl, k1, shC, oX, q, hld, w1, List.take_succ_cons, List.take_zero, Int.toNat_natCast]; repeat (simp (disch := omega) only [w64_d, ipos, ineg, dpos, dneg]; try simp (config := { maxSteps := 10000000 }) only [go_sem, seval, s_saccess_eq, s_pieces_eq, s_rload10_eq, s_sjoin_eq, e1, g1, g3, encP, fl, vl, k1, shC, oX, q, hld, w1, List.take_succ_cons, List.take_zero, Int.toNat_natCast]))
            exact ⟨by repeat' first | apply And.intro | (intro _; kernel_rfl) | kernel_rfl, k + 1, by omega, by omega, Wk.wk (by simp [lo]) (by simp [Am.get]) (by simp [AV.bel, Sc.bel]; omega) (subH_pre _ ⟨.inl rfl, .inl rfl, .inr rfl, .inr rfl, trivial⟩) (bb (k + 1))⟩
          · obtain rfl : k = l.length := by omega
            have hj : ∀ X, s_sjoin [.c (.sl (H.length + 2) 0 (3 * l.length) l.length), .c (.sl (H.length + 3) 0 l.length l.length)] (H ++ .dead :: .dead :: .vec 3 (l.flatMap encP) :: .vec 1 ((vP P l.length).flatMap encU) :: X) = some (.c (.u (jnU l P 0#64))) := by
              intro X
              have e3 : vP P l.length = P := by rw [← hPl]; exact vP_all
              rw [e3] at vl ⊢
              refine s_sjoin_eq (slD_of encP_l dcP_e ?_ rfl ?_) (slD_of encU_l dcU_e ?_ hPl.symm ?_) ⟨by omega, by omega⟩
              · rw [hg_len_add]; show 3 * l.length = (l.flatMap encP).length; rw [fl]
              · rw [hg_len_add]; rfl
              · rw [hg_len_add]; show l.length = (P.flatMap encU).length; rw [vl]
              · rw [hg_len_add]; rfl
            have hj0 := hj []
            (try simp (config := { maxSteps := 10000000 }) only [go_sem, seval, hj0]; repeat (simp (disch := omega) only [w64_d, ipos, ineg, dpos, dneg]; try simp (config := { maxSteps := 10000000 }) only [go_sem, seval, hj0]))
            exact subH_app _ _
      · simp at h
    · simp at h
  · simp at h
def stA (M : Nat × MapE) (l : List Pc) (v : BitVec 64) : Nat × MapE := l.foldl (fun M p => stM M (offN p.a) p.n.toNat (partU v p.n p.s)) M
def kiA (R : List Sl) (l : List Pc) (h : Int) : List Sl := l.foldl (fun R p => killN R (p.a / 64#64) h 8) R
theorem stA_step {M : Nat × MapE} {l : List Pc} {v : BitVec 64} {k : Nat} {p : Pc} (h : l[k]? = some p) : stA M (l.take (k + 1)) v = stM (stA M (l.take k) v) (offN p.a) p.n.toNat (partU v p.n p.s) := by
  unfold stA
  rw [List.take_add_one, h, List.foldl_append]; rfl
theorem kiA_step {R : List Sl} {l : List Pc} {h0 : Int} {k : Nat} {p : Pc} (h : l[k]? = some p) : kiA R (l.take (k + 1)) h0 = killN (kiA R (l.take k) h0) (p.a / 64#64) h0 8 := by
  unfold kiA
  rw [List.take_add_one, h, List.foldl_append]; rfl
theorem kiA_len {l : List Pc} {h : Int} : ∀ {R : List Sl}, (kiA R l h).length = R.length := by
  induction l with
  | nil => intro R; rfl
  | cons p l ih => intro R; show (kiA (killN R (p.a / 64#64) h 8) l h).length = _; rw [ih, killN_len]
theorem stA_wf {N : Nat} {l : List Pc} {v : BitVec 64} : ∀ {M : Nat × MapE}, wfE N M → (∀ p ∈ l, hasB N p.a p.n = true ∧ p.n ≤ 8) → wfE N (stA M l v) := by
  induction l with
  | nil => intro M h _; exact h
  | cons p l ih =>
    intro M h hl
    obtain ⟨h1, h2⟩ := hl p (by simp)
    rw [hasB_iff] at h1
    exact ih (wfE_stM h (by omega) (by omega) (by omega)) fun q hq => hl q (by simp [hq])
def s_sput14 (args : List AV) (H : AH) : Option (AV × AH) :=
  match args with
  | [.c x, .c (.i h), .g (.i k :: .u a :: .u b :: .i c :: .i s :: .i op :: .u d :: .u o :: .b lv :: r), .c (.u v)] =>
    match shQ H x with
    | some z => if askR r ∧ mayB z.ram.n k a b c s op = true then some (.t [], shSet H z (stA z.ram.M (accP a b c s) v) (kiA z.R (accP a b c s) h)) else none
    | none => none
  | _ => none
theorem s_sput14_eq {H : AH} {x : Sc} {z : ShS} {h k : Int} {a b : BitVec 64} {c s op : Int} {d o v : BitVec 64} {lv : Bool} {r : List Sc} (hz : ShIs H x z) (hr : askR r) (hm : mayB z.ram.n k a b c s op = true) : s_sput14 [.c x, .c (.i h), .g (.i k :: .u a :: .u b :: .i c :: .i s :: .i op :: .u d :: .u o :: .b lv :: r), .c (.u v)] H = some (.t [], shSet H z (stA z.ram.M (accP a b c s) v) (kiA z.R (accP a b c s) h)) := by
  simp only [s_sput14, shQ_of hz]
  rw [if_pos ⟨hr, hm⟩]
theorem len_sput14 (args : List AV) (H : AH) (v : AV) (H1 : AH) (h : s_sput14 args H = some (v, H1)) : H.length ≤ H1.length := by
  unfold s_sput14 at h
  repeat' split at h
  all_goals simp at h
  all_goals rw [← h.2, shSet_len]; exact Nat.le_refl _
set_option maxRecDepth 100000 in
set_option maxHeartbeats 2000000 in
theorem ok_sput14 : FpOk Tryz.prog 51 s_sput14 := by
  refine fp_ok (s := s_sput14) (tab := [(88, .pu s_saccess), (87, .fp s_pieces), (91, .pu s_spart), (90, .fp s_rstore10), (54, .pu s_sline), (92, .fp s_tbkill)]) hmix (TabOk.cons (e := .pu s_saccess) ok_saccess (TabOk.cons (e := .fp s_pieces) ok_pieces (TabOk.cons (e := .pu s_spart) ok_spart (TabOk.cons (e := .fp s_rstore10) ok_rstore10 (TabOk.cons (e := .pu s_sline) ok_sline (TabOk.cons (e := .fp s_tbkill) ok_tbkill TabOk.nil)))))) Tryz.func51 rfl Tryz.results51 Tryz.ntmps51 (by kernel_rfl) (by kernel_rfl) len_sput14 ?_
  intro args H v H1 h hargs hH
  unfold s_sput14 at h
  split at h
  · rename_i x h0 k a b c s op d o lv r v
    split at h
    · rename_i z hz
      split at h
      · rename_i hc
        obtain ⟨⟨lr, pr, ro⟩, hmay⟩ := hc
        simp only [Option.some.injEq, Prod.mk.injEq] at h
        obtain ⟨rfl, rfl⟩ := h
        have rt : r.take 10 = r := List.take_of_length_le (by omega)
        refine ⟨by simp only [List.length_cons, List.length_nil]; decide, ?_⟩
        have hS := shQ_inv hz
        have lid := hS.lid
        have n2 := hS.r.n2
        have hw := hS.r.w
        have hx := hS.x
        subst hx
        obtain ⟨hm, hall⟩ := may_all hmay
        have eL := accL_P a b c s
        have eN := accN_P a b c s
        have g := gd2_acc (a := a) (b := b) hm
        have l4 := (good_acc (a := a) (b := b) hm).2.2
        generalize accP a b c s = l at *
        have fl : (l.flatMap encP).length = 3 * l.length := by rw [fm_len encP_l, Nat.mul_comm]
        have wM : ∀ k, wfE z.ram.n (stA z.ram.M (l.take k) v) := fun k => stA_wf hw fun p hp => by
          have hp := List.mem_of_mem_take hp
          obtain ⟨j, hj⟩ := List.mem_iff_getElem?.1 hp
          exact ⟨hall p hp, (pc_inR g (by omega) hj).2⟩
        have wR : ∀ k, (kiA z.R (l.take k) h0).length = 8 := fun k => by rw [kiA_len, hS.l]
        let O : Nat → AH := fun k => shSet H z (stA z.ram.M (l.take k) v) (kiA z.R (l.take k) h0)
        let P : Nat → AH := fun k => shSet H z (stA z.ram.M (l.take (k + 1)) v) (kiA z.R (l.take k) h0)
        have lO : ∀ k, (O k).length = H.length := fun k => shSet_len
        have lP : ∀ k, (P k).length = H.length := fun k => shSet_len
        have bO : ∀ k, belH (O k) = true := fun k => hS.bel hH _ _
        have bb : ∀ k, belH (O k ++ [.dead, .dead, .vec 3 (l.flatMap encP)]) = true := fun k => belH_app (bO k) (by simp only [List.mem_cons, List.not_mem_nil, or_false, forall_eq_or_imp, forall_eq]; exact ⟨rfl, rfl, encPb⟩)
        have iO : ∀ k X, hg (O k ++ X) z.id = .own (shC (z.to (stA z.ram.M (l.take k) v) (kiA z.R (l.take k) h0))) := fun k X => ((hS.set (wM k) (wR k)).app X).o
        have iP : ∀ k X, hg (P k ++ X) z.id = .own (shC (z.to (stA z.ram.M (l.take (k + 1)) v) (kiA z.R (l.take k) h0))) := fun k X => ((hS.set (wM (k + 1)) (wR k)).app X).o
        have sO : ∀ k p X, l[k]? = some p → s_rstore10 [.c (.p z.ram.id 0 0), .c (.u p.a), .c (.i p.n), .c (.u (partU v p.n p.s))] (O k ++ X) = some (.c (.b true), P k ++ X) := fun k p X hp => by
          have hn := pc_inR g (by omega) hp
          have := sh_store hS (wM k) (wR k) X (a := p.a) (v := partU v p.n p.s) (n := p.n) (by unfold ldB; rw [show (z.ram.to (stA z.ram.M (l.take k) v)).n = z.ram.n from rfl, hall p (List.mem_of_getElem? hp), decide_eq_true hn.2]; rfl) ⟨by omega, by omega⟩
          rw [← stA_step hp] at this
          exact this
        have kP : ∀ k p X, l[k]? = some p → ∃ n : Nat, s_tbkill [.c (.p z.id 5 0), .c (.u (p.a / 64#64)), .c (.i h0)] (P k ++ X) = some (.c (.i n), O (k + 1) ++ X) := fun k p X hp => by
          have e := s_tbkill_eq (l := p.a / 64#64) (but := h0) (sh_tab hS (wM (k + 1)) (wR k) X)
          rw [sh_setQ hS (wM (k + 1)) (wR k) X, ← kiA_step hp] at e
          exact ⟨_, e⟩
        have h1 : O 0 = H := hS.self
        have fin : shSet H z (stA z.ram.M l v) (kiA z.R l h0) = O l.length := by show _ = shSet _ _ _ _; rw [List.take_length]
        rw [fin]
        clear_value O P
        have h1X : ∀ X, H ++ X = O 0 ++ X := fun X => by rw [h1]
        (try simp (config := { maxSteps := 10000000 }) only [go_sem, seval, s_saccess_eq, s_pieces_eq, s_spart_eq, s_rstore10_eq, s_sline_eq, s_tbkill_eq, lr, pr, ro, rt, hm, eL, eN]; repeat (simp (disch := omega) only [w64_d, ipos, ineg, dpos, dneg]; try simp (config := { maxSteps := 10000000 }) only [go_sem, seval, s_saccess_eq, s_pieces_eq, s_spart_eq, s_rstore10_eq, s_sline_eq, s_tbkill_eq, lr, pr, ro, rt, hm, eL, eN]))
        refine arun_for l.length (fun k => ([(0, .c (.p z.id 0 0)), (1, .c (.i h0)), (3, .c (.u v)), (12, .c (.sl (H.length + 2) 0 (3 * l.length) l.length)), (13, .c (.i l.length)), (14, .c (.i k))], O k ++ [.dead, .dead, .vec 3 (l.flatMap encP)])) ?_ fun k hk => ?_
        · exact Wk.wk (by simp [lo, lO]) (by simp [Am.get]) (by simp [AV.bel, Sc.bel, lO]; omega) (by rw [h1]; exact subH_pre _ ⟨.inl rfl, .inl rfl, .inr rfl, trivial⟩) (bb 0)
        · by_cases hlt : k < l.length
          · obtain ⟨p, hp1⟩ : ∃ p, l[k]? = some p := ⟨_, List.getElem?_eq_getElem hlt⟩
            have e1 : w64 ((k : Int) + 1) = ((k + 1 : Nat) : Int) := by rw [w64_d (by omega) (by omega)]; omega
            have g1 := fm_le encP_l (L := l) (k := k) hlt
            have g3 := pc_row hp1
            rw [fl] at g1
            have hlO : H.length = (O k).length := (lO k).symm
            have hO2 : ∀ X, hg (O k ++ X) (H.length + 2) = hg X 2 := fun X => by rw [hlO, hg_len_add]
            have hO3 : ∀ X, hg (O k ++ X) (H.length + 3) = hg X 3 := fun X => by rw [hlO, hg_len_add]
            have hP3 : ∀ X, hg (P k ++ X) (H.length + 3) = hg X 3 := fun X => by rw [← lP k, hg_len_add]
            have hs3 : ∀ X o, (O k ++ X).set (H.length + 3) o = O k ++ X.set 3 o := fun X o => by rw [hlO, set_len_add]
            have q1 := fun X => sO k p X hp1
            obtain ⟨n, q2⟩ := kP k p [.dead, .dead, .vec 3 (l.flatMap encP), .own [.u p.a, .i p.n, .i p.s]] hp1
            (try simp (config := { maxSteps := 10000000 }) only [go_sem, seval, s_saccess_eq, s_pieces_eq, s_spart_eq, s_rstore10_eq, s_sline_eq, s_tbkill_eq, e1, g1, g3, encP, fl, lO, hO2, hO3, hP3, hs3, iO, iP, shC, ShS.to, RamS.to, q1, q2, List.take_succ_cons, List.take_zero, Int.toNat_natCast]; repeat (simp (disch := omega) only [w64_d, ipos, ineg, dpos, dneg]; try simp (config := { maxSteps := 10000000 }) only [go_sem, seval, s_saccess_eq, s_pieces_eq, s_spart_eq, s_rstore10_eq, s_sline_eq, s_tbkill_eq, e1, g1, g3, encP, fl, lO, hO2, hO3, hP3, hs3, iO, iP, shC, ShS.to, RamS.to, q1, q2, List.take_succ_cons, List.take_zero, Int.toNat_natCast]))
            exact ⟨by repeat' first | apply And.intro | (intro _; kernel_rfl) | kernel_rfl, k + 1, by omega, by omega, Wk.wk (by simp [lo, lO]) (by simp [Am.get]) (by simp [AV.bel, Sc.bel, lO]; omega) (subH_pre _ ⟨.inl rfl, .inl rfl, .inr rfl, trivial⟩) (bb (k + 1))⟩
          · obtain rfl : k = l.length := by omega
            (try simp (config := { maxSteps := 10000000 }) only [go_sem, seval]; repeat (simp (disch := omega) only [w64_d, ipos, ineg, dpos, dneg]; try simp (config := { maxSteps := 10000000 }) only [go_sem, seval]))
            exact fin_fp rfl (subH_app _ _) (bO _) (by rw [lO]; exact Nat.le_refl _)
      · simp at h
    · simp at h
  · simp at h

structure Ak where
  k : Int
  a : BitVec 64
  b : BitVec 64
  c : Int
  s : Int
  op : Int
  d : BitVec 64
  o : BitVec 64
  lv : Bool
def Ak.l (q : Ak) : List Pc := accP q.a q.b q.c q.s
def dOk (z : ShS) (h : Int) (q : Ak) : Bool := mayB z.ram.n q.k q.a q.b q.c q.s q.op && (decide (0 ≤ h) && decide (h < z.h))
def dV (z : ShS) (q : Ak) : BitVec 64 := getA z.ram.M.2 (byteU q.a q.b q.c) q.s
def dSc (z : ShS) (h : Int) (q : Ak) : Bool := q.lv && hasT z.R h (q.a / 64#64)
def dWr (z : ShS) (h : Int) (q : Ak) : Option (BitVec 64) :=
  if dOk z h q = true then
    if q.k = 3 then some q.d else if q.k = 4 then some (amoU q.op (dV z q) q.d) else if q.k = 6 then (if dSc z h q = true then some q.d else none) else if q.k = 8 then (if dV z q = q.o then some q.d else none) else none
  else none
def dM (z : ShS) (h : Int) (q : Ak) : Nat × MapE := match dWr z h q with
  | some v => stA z.ram.M q.l v
  | none => z.ram.M
def dR1 (z : ShS) (h : Int) (q : Ak) : List Sl := match dWr z h q with
  | some _ => kiA z.R q.l h
  | none => z.R
def dR (z : ShS) (h : Int) (q : Ak) : List Sl := if dOk z h q = true then (if q.k = 5 then setT z.R h ⟨true, q.a / 64#64⟩ else if q.k = 6 then setT (dR1 z h q) h z0 else dR1 z h q) else z.R
def dD (z : ShS) (h : Int) (q : Ak) : BitVec 64 := if dOk z h q = true then (if q.k = 3 then 0#64 else if q.k = 6 then 0#64 else dV z q) else 0#64
def dG (z : ShS) (h : Int) (q : Ak) : Bool := if dOk z h q = true then (if q.k = 6 then dSc z h q else if q.k = 8 then decide (dV z q = q.o) else false) else false
theorem acc_wf {z : ShS} {q : Ak} (hw : wfE z.ram.n z.ram.M) (hm : mayB z.ram.n q.k q.a q.b q.c q.s q.op = true) (v : BitVec 64) : wfE z.ram.n (stA z.ram.M q.l v) := by
  obtain ⟨h1, h2⟩ := may_all hm
  refine stA_wf hw fun p hp => ?_
  obtain ⟨j, hj⟩ := List.mem_iff_getElem?.1 hp
  exact ⟨h2 p hp, (pc_inR (gd2_acc (a := q.a) (b := q.b) h1) (by omega) hj).2⟩
theorem dOk_may {z : ShS} {h : Int} {q : Ak} (e : dOk z h q = true) : mayB z.ram.n q.k q.a q.b q.c q.s q.op = true := by unfold dOk at e; rw [Bool.and_eq_true] at e; exact e.1
theorem dM_wf {z : ShS} {h : Int} {q : Ak} (hw : wfE z.ram.n z.ram.M) : wfE z.ram.n (dM z h q) := by
  unfold dM
  cases e : dWr z h q with
  | none => exact hw
  | some v =>
    have ho : dOk z h q = true := by
      unfold dWr at e
      split at e
      · rename_i h1; exact h1
      · simp at e
    exact acc_wf hw (dOk_may ho) v
theorem dR1_len {z : ShS} {h : Int} {q : Ak} (hR : z.R.length = 8) : (dR1 z h q).length = 8 := by
  unfold dR1
  split
  · rw [kiA_len, hR]
  · exact hR
theorem dR_len {z : ShS} {h : Int} {q : Ak} (hR : z.R.length = 8) : (dR z h q).length = 8 := by
  have := dR1_len (h := h) (q := q) hR
  unfold dR
  repeat' split
  all_goals first | exact hR | exact this | (rw [setT_l]; first | exact hR | exact this)
def s_sdo14 (args : List AV) (H : AH) : Option (AV × AH) :=
  match args with
  | [.c x, .c (.i h), .g (.i k :: .u a :: .u b :: .i c :: .i s :: .i op :: .u d :: .u o :: .b lv :: r)] =>
    if askR r then
      match x with
      | .nilp => some (.t [.g (anC 0#64 false), .c (.b false)], H)
      | x => (shQ H x).map fun z => (.t [.g (anC (dD z h ⟨k, a, b, c, s, op, d, o, lv⟩) (dG z h ⟨k, a, b, c, s, op, d, o, lv⟩)), .c (.b (dOk z h ⟨k, a, b, c, s, op, d, o, lv⟩))], shSet H z (dM z h ⟨k, a, b, c, s, op, d, o, lv⟩) (dR z h ⟨k, a, b, c, s, op, d, o, lv⟩))
    else none
  | _ => none
theorem s_sdo14_eq {H : AH} {x : Sc} {z : ShS} {h k : Int} {a b : BitVec 64} {c s op : Int} {d o : BitVec 64} {lv : Bool} {r : List Sc} (hz : ShIs H x z) (hr : askR r) : s_sdo14 [.c x, .c (.i h), .g (.i k :: .u a :: .u b :: .i c :: .i s :: .i op :: .u d :: .u o :: .b lv :: r)] H = some (.t [.g (anC (dD z h ⟨k, a, b, c, s, op, d, o, lv⟩) (dG z h ⟨k, a, b, c, s, op, d, o, lv⟩)), .c (.b (dOk z h ⟨k, a, b, c, s, op, d, o, lv⟩))], shSet H z (dM z h ⟨k, a, b, c, s, op, d, o, lv⟩) (dR z h ⟨k, a, b, c, s, op, d, o, lv⟩)) := by
  have hx := hz.x
  subst hx
  simp only [s_sdo14, hr, if_true, shQ_of hz, Option.map_some]
theorem len_sdo14 (args : List AV) (H : AH) (v : AV) (H1 : AH) (h : s_sdo14 args H = some (v, H1)) : H.length ≤ H1.length := by
  unfold s_sdo14 at h
  repeat' split at h
  · simp at h; rw [← h.2]; exact Nat.le_refl _
  · rw [Option.map_eq_some_iff] at h
    obtain ⟨z, _, h2⟩ := h
    simp only [Prod.mk.injEq] at h2
    rw [← h2.2, shSet_len]; exact Nat.le_refl _
  all_goals simp at h
set_option maxRecDepth 100000 in
set_option maxHeartbeats 4000000 in
theorem ok_sdo14 : FpOk Tryz.prog 24 s_sdo14 := by
  refine fp_ok (s := s_sdo14) (tab := [(49, .fq s_smay14), (50, .fq s_sget14), (51, .fp s_sput14), (52, .pu s_amoDo), (53, .fp s_tbset), (54, .pu s_sline), (55, .fq s_tbhas), (56, .fp s_tbclear)]) hmix (TabOk.cons (e := .fq s_smay14) ok_smay14 (TabOk.cons (e := .fq s_sget14) ok_sget14 (TabOk.cons (e := .fp s_sput14) ok_sput14 (TabOk.cons (e := .pu s_amoDo) ok_amoDo (TabOk.cons (e := .fp s_tbset) ok_tbset (TabOk.cons (e := .pu s_sline) ok_sline (TabOk.cons (e := .fq s_tbhas) ok_tbhas (TabOk.cons (e := .fp s_tbclear) ok_tbclear TabOk.nil)))))))) Tryz.func24 rfl Tryz.results24 Tryz.ntmps24 (by kernel_rfl) (by kernel_rfl) len_sdo14 ?_
  intro args H v H1 h hargs hH
  unfold s_sdo14 at h
  split at h
  · rename_i x h0 k a b c s op d o lv r
    split at h
    · rename_i hr
      have lr := hr.1
      have pr := hr.2.1
      have ro := hr.2.2
      have rt : r.take 10 = r := List.take_of_length_le (by omega)
      refine ⟨by simp only [List.length_cons, List.length_nil]; decide, ?_⟩
      split at h
      · simp only [Option.some.injEq, Prod.mk.injEq] at h
        obtain ⟨rfl, rfl⟩ := h
        have p1 := fun H => s_smay14_nil (H := H) (k := k) (a := a) (b := b) (c := c) (s := s) (op := op) (d := d) (o := o) (lv := lv) hr
        (try simp (config := { maxSteps := 10000000 }) only [go_sem, seval, lr, ro, rt, p1]; repeat (simp (disch := omega) only [w64_d, ipos, ineg, dpos, dneg]; try simp (config := { maxSteps := 10000000 }) only [go_sem, seval, lr, ro, rt, p1]))
        exact fin_fp anT_bel (subH_app _ _) hH (Nat.le_refl _)
      · rename_i hx
        rw [Option.map_eq_some_iff] at h
        obtain ⟨z, hz, h2⟩ := h
        simp only [Prod.mk.injEq] at h2
        obtain ⟨rfl, rfl⟩ := h2
        have hS := shQ_inv hz
        have lid := hS.lid
        have oX := fun X => (hS.app X).o
        have slf := hS.self
        have p1 := fun X => s_smay14_eq (k := k) (a := a) (b := b) (c := c) (s := s) (op := op) (d := d) (o := o) (lv := lv) (hS.app X) hr
        have p2 := fun X => s_sget14_eq (k := k) (a := a) (b := b) (c := c) (s := s) (op := op) (d := d) (o := o) (lv := lv) (hS.app X) hr
        have p3 := fun X v => s_sput14_eq (h := h0) (k := k) (a := a) (b := b) (c := c) (s := s) (op := op) (d := d) (o := o) (lv := lv) (v := v) (hS.app X) hr
        obtain ⟨q, hq⟩ : ∃ q : Ak, q = ⟨k, a, b, c, s, op, d, o, lv⟩ := ⟨_, rfl⟩
        have fz : ∀ d g q', (AV.t [.g (anC d g), .c (.b q')]).bel (shSet H z (dM z h0 ⟨k, a, b, c, s, op, d, o, lv⟩) (dR z h0 ⟨k, a, b, c, s, op, d, o, lv⟩)).length = true := fun d g q' => anT_bel
        have hx := hS.x
        subst hx
        have no : dOk z h0 ⟨k, a, b, c, s, op, d, o, lv⟩ = false → dD z h0 ⟨k, a, b, c, s, op, d, o, lv⟩ = 0#64 ∧ dG z h0 ⟨k, a, b, c, s, op, d, o, lv⟩ = false ∧ shSet H z (dM z h0 ⟨k, a, b, c, s, op, d, o, lv⟩) (dR z h0 ⟨k, a, b, c, s, op, d, o, lv⟩) = H := fun e => by
          refine ⟨by simp [dD, e], by simp [dG, e], ?_⟩
          have : dM z h0 ⟨k, a, b, c, s, op, d, o, lv⟩ = z.ram.M := by simp [dM, dWr, e]
          rw [this, show dR z h0 ⟨k, a, b, c, s, op, d, o, lv⟩ = z.R by simp [dR, e], slf]
        cases hm : mayB z.ram.n k a b c s op
        · have e : dOk z h0 ⟨k, a, b, c, s, op, d, o, lv⟩ = false := by unfold dOk; rw [hm]; rfl
          obtain ⟨e1, e2, e3⟩ := no e
          rw [e, e1, e2, e3]
          (try simp (config := { maxSteps := 10000000 }) only [go_sem, seval, lr, ro, rt, p1, hm]; repeat (simp (disch := omega) only [w64_d, ipos, ineg, dpos, dneg]; try simp (config := { maxSteps := 10000000 }) only [go_sem, seval, lr, ro, rt, p1, hm]))
          exact fin_fp anT_bel (subH_app _ _) hH (Nat.le_refl _)
        by_cases h1 : h0 < 0
        · have e : dOk z h0 ⟨k, a, b, c, s, op, d, o, lv⟩ = false := by unfold dOk; rw [decide_eq_false (show ¬ 0 ≤ h0 by omega)]; simp
          obtain ⟨e1, e2, e3⟩ := no e
          rw [e, e1, e2, e3]
          (try simp (config := { maxSteps := 10000000 }) only [go_sem, seval, lr, ro, rt, p1, hm, h1]; repeat (simp (disch := omega) only [w64_d, ipos, ineg, dpos, dneg]; try simp (config := { maxSteps := 10000000 }) only [go_sem, seval, lr, ro, rt, p1, hm, h1]))
          exact fin_fp anT_bel (subH_app _ _) hH (Nat.le_refl _)
        by_cases h2 : z.h ≤ h0
        · have e : dOk z h0 ⟨k, a, b, c, s, op, d, o, lv⟩ = false := by unfold dOk; rw [decide_eq_false (show ¬ h0 < z.h by omega)]; simp
          obtain ⟨e1, e2, e3⟩ := no e
          rw [e, e1, e2, e3]
          (try simp (config := { maxSteps := 10000000 }) only [go_sem, seval, lr, ro, rt, p1, hm, h1, h2, oX, shC]; repeat (simp (disch := omega) only [w64_d, ipos, ineg, dpos, dneg]; try simp (config := { maxSteps := 10000000 }) only [go_sem, seval, lr, ro, rt, p1, hm, h1, h2, oX, shC]))
          exact fin_fp anT_bel (subH_app _ _) hH (Nat.le_refl _)
        have eok : dOk z h0 ⟨k, a, b, c, s, op, d, o, lv⟩ = true := by unfold dOk; rw [hm, decide_eq_true (show 0 ≤ h0 by omega), decide_eq_true (show h0 < z.h by omega)]; rfl
        rw [eok]
        have p2 := fun X => p2 X hm
        have p3 := fun X v => p3 X v hm
        simp only [shSet_app hS] at p3
        have bb := fun M R => hS.bel hH M R
        have fin : ∀ d g, (AV.t [.g (anC d g), .c (.b true)]).bel H.length = true := fun d g => anT_bel
        have g1 : ∀ M R X, hg (shSet H z M R ++ X) H.length = hg X 0 := fun M R X => by rw [← shSet_len (H := H) (s := z) (M := M) (R := R), hg_len]
        have g2 : ∀ M R X j, hg (shSet H z M R ++ X) (H.length + j) = hg X j := fun M R X j => by rw [← shSet_len (H := H) (s := z) (M := M) (R := R), hg_len_add]
        have s2 : ∀ M R X j o, (shSet H z M R ++ X).set (H.length + j) o = shSet H z M R ++ X.set j o := fun M R X j o => by rw [← shSet_len (H := H) (s := z) (M := M) (R := R), set_len_add]
        have t0 := fun X => sh_tab hS hS.r.w hS.l X
        have t0' := fun X S => sh_setQ hS hS.r.w hS.l X S
        rw [slf] at t0 t0'
        have t1 := fun X l => s_tbset_eq (h := h0) (l := l) (t0 X)
        have t2 := fun X l => s_tbhas_eq (h := h0) (l := l) (t0 X)
        have t3 := fun X => s_tbclear_eq (h := h0) (t0 X)
        simp only [t0'] at t1 t3
        have t4 : ∀ M R X, wfE z.ram.n M → R.length = 8 → s_tbclear [.c (.p z.id 5 0), .c (.i h0)] (shSet H z M R ++ X) = some (.c (.b (at8 R h0).is), shSet H z M (setT R h0 z0) ++ X) := fun M R X hM hR => by
          rw [s_tbclear_eq (h := h0) (sh_tab hS hM hR X), sh_setQ hS hM hR X]
        by_cases k3 : k = 3
        · subst k3
          have eD : dD z h0 ⟨3, a, b, c, s, op, d, o, lv⟩ = 0#64 := by simp [dD, eok]
          have eG : dG z h0 ⟨3, a, b, c, s, op, d, o, lv⟩ = false := by simp [dG, eok]
          have eW : dWr z h0 ⟨3, a, b, c, s, op, d, o, lv⟩ = some d := by simp [dWr, eok]
          have eM : dM z h0 ⟨3, a, b, c, s, op, d, o, lv⟩ = stA z.ram.M (accP a b c s) d := by simp [dM, eW, Ak.l]
          have eR : dR z h0 ⟨3, a, b, c, s, op, d, o, lv⟩ = kiA z.R (accP a b c s) h0 := by simp [dR, dR1, eW, eok, Ak.l]
          rw [eD, eG, eM, eR]
          (try simp (config := { maxSteps := 10000000 }) only [go_sem, seval, s_smay14_eq, s_sget14_eq, s_sput14_eq, s_amoDo_eq, s_tbset_eq, s_sline_eq, s_tbhas_eq, s_tbclear_eq, lr, ro, rt, p1, hm, h1, h2, oX, shC, p2, p3, g1, g2, s2]; repeat (simp (disch := omega) only [w64_d, ipos, ineg, dpos, dneg]; try simp (config := { maxSteps := 10000000 }) only [go_sem, seval, s_smay14_eq, s_sget14_eq, s_sput14_eq, s_amoDo_eq, s_tbset_eq, s_sline_eq, s_tbhas_eq, s_tbclear_eq, lr, ro, rt, p1, hm, h1, h2, oX, shC, p2, p3, g1, g2, s2]))
          exact fin_fp anT_bel (subH_app _ _) (bb _ _) (by rw [shSet_len]; exact Nat.le_refl _)
        by_cases k4 : k = 4
        · subst k4
          have eD : dD z h0 ⟨4, a, b, c, s, op, d, o, lv⟩ = getA z.ram.M.2 (byteU a b c) s := by simp [dD, eok, dV]
          have eG : dG z h0 ⟨4, a, b, c, s, op, d, o, lv⟩ = false := by simp [dG, eok]
          have eW : dWr z h0 ⟨4, a, b, c, s, op, d, o, lv⟩ = some (amoU op (getA z.ram.M.2 (byteU a b c) s) d) := by simp [dWr, eok, dV]
          have eM : dM z h0 ⟨4, a, b, c, s, op, d, o, lv⟩ = stA z.ram.M (accP a b c s) (amoU op (getA z.ram.M.2 (byteU a b c) s) d) := by simp [dM, eW, Ak.l]
          have eR : dR z h0 ⟨4, a, b, c, s, op, d, o, lv⟩ = kiA z.R (accP a b c s) h0 := by simp [dR, dR1, eW, eok, Ak.l]
          rw [eD, eG, eM, eR]
          (try simp (config := { maxSteps := 10000000 }) only [go_sem, seval, s_smay14_eq, s_sget14_eq, s_sput14_eq, s_amoDo_eq, s_tbset_eq, s_sline_eq, s_tbhas_eq, s_tbclear_eq, lr, ro, rt, p1, hm, h1, h2, oX, shC, p2, p3, g1, g2, s2]; repeat (simp (disch := omega) only [w64_d, ipos, ineg, dpos, dneg]; try simp (config := { maxSteps := 10000000 }) only [go_sem, seval, s_smay14_eq, s_sget14_eq, s_sput14_eq, s_amoDo_eq, s_tbset_eq, s_sline_eq, s_tbhas_eq, s_tbclear_eq, lr, ro, rt, p1, hm, h1, h2, oX, shC, p2, p3, g1, g2, s2]))
          exact fin_fp anT_bel (subH_app _ _) (bb _ _) (by rw [shSet_len]; exact Nat.le_refl _)
        by_cases k5 : k = 5
        · subst k5
          have eD : dD z h0 ⟨5, a, b, c, s, op, d, o, lv⟩ = getA z.ram.M.2 (byteU a b c) s := by simp [dD, eok, dV]
          have eG : dG z h0 ⟨5, a, b, c, s, op, d, o, lv⟩ = false := by simp [dG, eok]
          have eW : dWr z h0 ⟨5, a, b, c, s, op, d, o, lv⟩ = none := by simp [dWr, eok]
          have eM : dM z h0 ⟨5, a, b, c, s, op, d, o, lv⟩ = z.ram.M := by simp [dM, eW]
          have eR : dR z h0 ⟨5, a, b, c, s, op, d, o, lv⟩ = setT z.R h0 ⟨true, a / 64#64⟩ := by simp [dR, eok]
          rw [eD, eG, eM, eR]
          (try simp (config := { maxSteps := 10000000 }) only [go_sem, seval, s_smay14_eq, s_sget14_eq, s_sput14_eq, s_amoDo_eq, s_tbset_eq, s_sline_eq, s_tbhas_eq, s_tbclear_eq, lr, ro, rt, p1, hm, h1, h2, oX, shC, p2, p3, g1, g2, s2, t1]; repeat (simp (disch := omega) only [w64_d, ipos, ineg, dpos, dneg]; try simp (config := { maxSteps := 10000000 }) only [go_sem, seval, s_smay14_eq, s_sget14_eq, s_sput14_eq, s_amoDo_eq, s_tbset_eq, s_sline_eq, s_tbhas_eq, s_tbclear_eq, lr, ro, rt, p1, hm, h1, h2, oX, shC, p2, p3, g1, g2, s2, t1]))
          exact fin_fp anT_bel (subH_app _ _) (bb _ _) (by rw [shSet_len]; exact Nat.le_refl _)
        by_cases k6 : k = 6
        · subst k6
          have eD : dD z h0 ⟨6, a, b, c, s, op, d, o, lv⟩ = 0#64 := by simp [dD, eok]
          have eG : dG z h0 ⟨6, a, b, c, s, op, d, o, lv⟩ = dSc z h0 ⟨6, a, b, c, s, op, d, o, lv⟩ := by simp [dG, eok]
          have eS : dSc z h0 ⟨6, a, b, c, s, op, d, o, lv⟩ = (lv && hasT z.R h0 (a / 64#64)) := rfl
          rw [eD, eG]
          cases hg : dSc z h0 ⟨6, a, b, c, s, op, d, o, lv⟩
          · have eW : dWr z h0 ⟨6, a, b, c, s, op, d, o, lv⟩ = none := by simp [dWr, eok, hg]
            have eM : dM z h0 ⟨6, a, b, c, s, op, d, o, lv⟩ = z.ram.M := by simp [dM, eW]
            have eR : dR z h0 ⟨6, a, b, c, s, op, d, o, lv⟩ = setT z.R h0 z0 := by simp [dR, dR1, eW, eok]
            rw [eM, eR]
            rw [hg] at eS
            cases lv
            · (try simp (config := { maxSteps := 10000000 }) only [go_sem, seval, s_smay14_eq, s_sget14_eq, s_sput14_eq, s_amoDo_eq, s_tbset_eq, s_sline_eq, s_tbhas_eq, s_tbclear_eq, lr, ro, rt, p1, hm, h1, h2, oX, shC, p2, p3, g1, g2, s2, t2, t3]; repeat (simp (disch := omega) only [w64_d, ipos, ineg, dpos, dneg]; try simp (config := { maxSteps := 10000000 }) only [go_sem, seval, s_smay14_eq, s_sget14_eq, s_sput14_eq, s_amoDo_eq, s_tbset_eq, s_sline_eq, s_tbhas_eq, s_tbclear_eq, lr, ro, rt, p1, hm, h1, h2, oX, shC, p2, p3, g1, g2, s2, t2, t3]))
              exact ⟨by repeat' first | apply And.intro | (intro _; kernel_rfl) | kernel_rfl, fin_fp anT_bel (subH_app _ _) (bb _ _) (by rw [shSet_len]; exact Nat.le_refl _)⟩
            · rw [Bool.true_and] at eS
              (try simp (config := { maxSteps := 10000000 }) only [go_sem, seval, s_smay14_eq, s_sget14_eq, s_sput14_eq, s_amoDo_eq, s_tbset_eq, s_sline_eq, s_tbhas_eq, s_tbclear_eq, lr, ro, rt, p1, hm, h1, h2, oX, shC, p2, p3, g1, g2, s2, t2, t3, ← eS]; repeat (simp (disch := omega) only [w64_d, ipos, ineg, dpos, dneg]; try simp (config := { maxSteps := 10000000 }) only [go_sem, seval, s_smay14_eq, s_sget14_eq, s_sput14_eq, s_amoDo_eq, s_tbset_eq, s_sline_eq, s_tbhas_eq, s_tbclear_eq, lr, ro, rt, p1, hm, h1, h2, oX, shC, p2, p3, g1, g2, s2, t2, t3, ← eS]))
              exact ⟨by repeat' first | apply And.intro | (intro _; kernel_rfl) | kernel_rfl, fin_fp anT_bel (subH_app _ _) (bb _ _) (by rw [shSet_len]; exact Nat.le_refl _)⟩
          · have eW : dWr z h0 ⟨6, a, b, c, s, op, d, o, lv⟩ = some d := by simp [dWr, eok, hg]
            have eM : dM z h0 ⟨6, a, b, c, s, op, d, o, lv⟩ = stA z.ram.M (accP a b c s) d := by simp [dM, eW, Ak.l]
            have eR : dR z h0 ⟨6, a, b, c, s, op, d, o, lv⟩ = setT (kiA z.R (accP a b c s) h0) h0 z0 := by simp [dR, dR1, eW, eok, Ak.l]
            rw [eM, eR]
            rw [hg] at eS
            have eS := eS.symm
            rw [Bool.and_eq_true] at eS
            obtain ⟨rfl, eS2⟩ := eS
            have w4 := acc_wf (q := ⟨6, a, b, c, s, op, d, o, true⟩) hS.r.w hm d
            have t4 := fun X => t4 _ (kiA z.R (accP a b c s) h0) X w4 (by rw [kiA_len]; exact hS.l)
            simp only [Ak.l] at t4
            (try simp (config := { maxSteps := 10000000 }) only [go_sem, seval, s_smay14_eq, s_sget14_eq, s_sput14_eq, s_amoDo_eq, s_tbset_eq, s_sline_eq, s_tbhas_eq, s_tbclear_eq, lr, ro, rt, p1, hm, h1, h2, oX, shC, p2, p3, g1, g2, s2, t2, t4, eS2]; repeat (simp (disch := omega) only [w64_d, ipos, ineg, dpos, dneg]; try simp (config := { maxSteps := 10000000 }) only [go_sem, seval, s_smay14_eq, s_sget14_eq, s_sput14_eq, s_amoDo_eq, s_tbset_eq, s_sline_eq, s_tbhas_eq, s_tbclear_eq, lr, ro, rt, p1, hm, h1, h2, oX, shC, p2, p3, g1, g2, s2, t2, t4, eS2]))
            exact ⟨by repeat' first | apply And.intro | (intro _; kernel_rfl) | kernel_rfl, fin_fp anT_bel (subH_app _ _) (bb _ _) (by rw [shSet_len]; exact Nat.le_refl _)⟩
        by_cases k8 : k = 8
        · subst k8
          have eD : dD z h0 ⟨8, a, b, c, s, op, d, o, lv⟩ = getA z.ram.M.2 (byteU a b c) s := by simp [dD, eok, dV]
          have eG : dG z h0 ⟨8, a, b, c, s, op, d, o, lv⟩ = decide (getA z.ram.M.2 (byteU a b c) s = o) := by unfold dG; rw [if_pos eok, if_neg (show ¬ (8 : Int) = 6 by decide), if_pos rfl]; rfl
          rw [eD, eG]
          by_cases hv : getA z.ram.M.2 (byteU a b c) s = o
          · have eW : dWr z h0 ⟨8, a, b, c, s, op, d, o, lv⟩ = some d := by simp [dWr, eok, dV, hv]
            have eM : dM z h0 ⟨8, a, b, c, s, op, d, o, lv⟩ = stA z.ram.M (accP a b c s) d := by simp [dM, eW, Ak.l]
            have eR : dR z h0 ⟨8, a, b, c, s, op, d, o, lv⟩ = kiA z.R (accP a b c s) h0 := by simp [dR, dR1, eW, eok, Ak.l]
            rw [eM, eR]
            (try simp (config := { maxSteps := 10000000 }) only [go_sem, seval, s_smay14_eq, s_sget14_eq, s_sput14_eq, s_amoDo_eq, s_tbset_eq, s_sline_eq, s_tbhas_eq, s_tbclear_eq, lr, ro, rt, p1, hm, h1, h2, oX, shC, p2, p3, g1, g2, s2, hv]; repeat (simp (disch := omega) only [w64_d, ipos, ineg, dpos, dneg]; try simp (config := { maxSteps := 10000000 }) only [go_sem, seval, s_smay14_eq, s_sget14_eq, s_sput14_eq, s_amoDo_eq, s_tbset_eq, s_sline_eq, s_tbhas_eq, s_tbclear_eq, lr, ro, rt, p1, hm, h1, h2, oX, shC, p2, p3, g1, g2, s2, hv]))
            exact fin_fp anT_bel (subH_app _ _) (bb _ _) (by rw [shSet_len]; exact Nat.le_refl _)
          · have eW : dWr z h0 ⟨8, a, b, c, s, op, d, o, lv⟩ = none := by simp [dWr, eok, dV, hv]
            have eM : dM z h0 ⟨8, a, b, c, s, op, d, o, lv⟩ = z.ram.M := by simp [dM, eW]
            have eR : dR z h0 ⟨8, a, b, c, s, op, d, o, lv⟩ = z.R := by simp [dR, dR1, eW, eok]
            rw [eM, eR, slf]
            (try simp (config := { maxSteps := 10000000 }) only [go_sem, seval, s_smay14_eq, s_sget14_eq, s_sput14_eq, s_amoDo_eq, s_tbset_eq, s_sline_eq, s_tbhas_eq, s_tbclear_eq, lr, ro, rt, p1, hm, h1, h2, oX, shC, p2, p3, g1, g2, s2, hv]; repeat (simp (disch := omega) only [w64_d, ipos, ineg, dpos, dneg]; try simp (config := { maxSteps := 10000000 }) only [go_sem, seval, s_smay14_eq, s_sget14_eq, s_sput14_eq, s_amoDo_eq, s_tbset_eq, s_sline_eq, s_tbhas_eq, s_tbclear_eq, lr, ro, rt, p1, hm, h1, h2, oX, shC, p2, p3, g1, g2, s2, hv]))
            exact fin_fp anT_bel (subH_app _ _) hH (Nat.le_refl _)
        have eD : dD z h0 ⟨k, a, b, c, s, op, d, o, lv⟩ = getA z.ram.M.2 (byteU a b c) s := by simp [dD, eok, dV, k3, k6]
        have eG : dG z h0 ⟨k, a, b, c, s, op, d, o, lv⟩ = false := by simp [dG, eok, k6, k8]
        have eW : dWr z h0 ⟨k, a, b, c, s, op, d, o, lv⟩ = none := by simp [dWr, eok, k3, k4, k6, k8]
        have eM : dM z h0 ⟨k, a, b, c, s, op, d, o, lv⟩ = z.ram.M := by simp [dM, eW]
        have eR : dR z h0 ⟨k, a, b, c, s, op, d, o, lv⟩ = z.R := by simp [dR, dR1, eW, eok, k5, k6]
        rw [eD, eG, eM, eR, slf]
        (try simp (config := { maxSteps := 10000000 }) only [go_sem, seval, s_smay14_eq, s_sget14_eq, s_sput14_eq, s_amoDo_eq, s_tbset_eq, s_sline_eq, s_tbhas_eq, s_tbclear_eq, lr, ro, rt, p1, hm, h1, h2, oX, shC, p2, p3, g1, g2, s2, k3, k4, k5, k6, k8]; repeat (simp (disch := omega) only [w64_d, ipos, ineg, dpos, dneg]; try simp (config := { maxSteps := 10000000 }) only [go_sem, seval, s_smay14_eq, s_sget14_eq, s_sput14_eq, s_amoDo_eq, s_tbset_eq, s_sline_eq, s_tbhas_eq, s_tbclear_eq, lr, ro, rt, p1, hm, h1, h2, oX, shC, p2, p3, g1, g2, s2, k3, k4, k5, k6, k8]))
        exact fin_fp anT_bel (subH_app _ _) hH (Nat.le_refl _)
    · simp at h
  · simp at h
end
end Go.Proofs.YtcbhelkafelofaaGreat
