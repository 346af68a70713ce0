/- The law ShardPairs -/
import Derived.Test.YtcbhelkafelofaaGreatShd
import Derived.Test.YtcbhelkafelofaaGreatAsk
import Derived.Test.YtcbhelkafelofaaGreatFlG
import Derived.Test.YtcbhelkafelofaaGreatM1
namespace Go.Proofs.YtcbhelkafelofaaGreat
open Go.Am
set_option linter.unusedSimpArgs false
set_option linter.unusedVariables false
noncomputable section

theorem hasT_eq {R : List Sl} {k : Nat} {y : Sl} {l : BitVec 64} (hk : k < 8) (hy : R[k]? = some y) : hasT R k l = (y.is && decide (y.ln = l)) := by
  unfold hasT; rw [in8_k hk, at8_k hk hy]; rfl
theorem has_kill {R : List Sl} {l ln : BitVec 64} {b : Int} {k : Nat} (hR : R.length = 8) (hk : k < 8) : hasT (killN R l b 8) k ln = (hasT R k ln && !(!decide ((k : Int) = b) && decide (l = ln))) := by
  obtain ⟨y, hy⟩ := sl_some hR hk
  have g := killN_get (R := R) (l := l) (but := b) (j := k) (k := 8)
  have hB : killB R l b k = (!decide ((k : Int) = b) && (y.is && decide (y.ln = l))) := by unfold killB; rw [hasT_eq hk hy]
  rw [hasT_eq hk hy]
  by_cases h : killB R l b k = true
  · rw [if_pos ⟨hk, h, by omega⟩] at g
    rw [hasT_eq hk g]
    rw [hB] at h
    simp only [Bool.and_eq_true, decide_eq_true_eq] at h
    obtain ⟨h1, h2, h3⟩ := h
    rw [h1, h2, h3]
    simp [z0]
  · rw [if_neg (by simp [h]), hy] at g
    rw [hasT_eq hk g]
    rw [hB] at h
    by_cases e : l = ln
    · subst e
      cases h1 : decide ((k : Int) = b) <;> simp_all
    · rw [decide_eq_false e]; simp
theorem has_kiA {ln : BitVec 64} {b : Int} {k : Nat} (hk : k < 8) {l : List Pc} : ∀ {R : List Sl}, R.length = 8 → hasT (kiA R l b) k ln = (hasT R k ln && !(!decide ((k : Int) = b) && l.any fun p => decide (p.a / 64#64 = ln))) := by
  induction l with
  | nil => intro R _; simp [kiA]
  | cons p l ih =>
    intro R hR
    show hasT (kiA (killN R (p.a / 64#64) b 8) l b) k ln = _
    rw [ih (by rw [killN_len]; exact hR), has_kill hR hk, List.any_cons]
    generalize (l.any fun p => decide (p.a / 64#64 = ln)) = u
    generalize decide (p.a / 64#64 = ln) = v
    cases hasT R k ln <;> cases decide ((k : Int) = b) <;> cases u <;> cases v <;> rfl
theorem has_setT {R : List Sl} {ln : BitVec 64} {h k : Nat} {y : Sl} (hR : R.length = 8) (hh : h < 8) (hk : k < 8) : hasT (setT R h y) k ln = if h = k then (y.is && decide (y.ln = ln)) else hasT R k ln := by
  have e : setT R h y = R.set h y := by unfold setT; rw [if_pos (in8_k hh)]; rfl
  rw [e]
  obtain ⟨x, hx⟩ := sl_some hR hk
  by_cases c : h = k
  · subst c
    rw [if_pos rfl]
    exact hasT_eq hk (by rw [List.getElem?_set, if_pos rfl, if_pos (by omega)])
  · rw [if_neg c, hasT_eq hk hx]
    exact hasT_eq hk (by rw [List.getElem?_set, if_neg c]; exact hx)
structure Hs where
  h : Int
  q : Ak
  g : Bool
def tchB (q : Ak) (ln : BitVec 64) : Bool := q.l.any fun p => decide (p.a / 64#64 = ln)
def stepC (v : Bool) (x : Hs) (h : Int) (ln : BitVec 64) : Bool :=
  if x.h = h then (if x.q.k = 6 then false else if x.q.k = 5 then decide (x.q.a / 64#64 = ln) else v) else if (wrB x.q.k x.g && tchB x.q ln) = true then false else v
def cntBp (P : List Hs) (h : Int) (ln : BitVec 64) : Bool := P.foldl (fun v x => stepC v x h ln) false
theorem cntB_app {P : List Hs} {x : Hs} {h : Int} {ln : BitVec 64} : cntBp (P ++ [x]) h ln = stepC (cntBp P h ln) x h ln := by unfold cntBp; rw [List.foldl_append]; rfl
theorem dOk_h {z : ShS} {h : Int} {q : Ak} (e : dOk z h q = true) (hz : z.h ≤ 8) : ∃ k : Nat, h = k ∧ k < 8 := by
  unfold dOk at e
  simp only [Bool.and_eq_true, decide_eq_true_eq] at e
  exact ⟨h.toNat, by omega, by omega⟩
theorem inv_step {z : ShS} {P : List Hs} {h : Int} {q : Ak} (hz : z.h ≤ 8) (hR : z.R.length = 8) (hI : ∀ (j : Nat) ln, j < 8 → hasT z.R j ln = cntBp P j ln) (ok : dOk z h q = true) (j : Nat) (ln : BitVec 64) (hj : j < 8) :
    hasT (dR z h q) j ln = cntBp (P ++ [⟨h, q, dG z h q⟩]) j ln := by
  obtain ⟨h, rfl, hh⟩ := dOk_h ok hz
  rw [cntB_app, ← hI j ln hj]
  have kc : ((h : Int) = (j : Int)) = (h = j) := propext (by omega)
  have kd : decide ((j : Int) = (h : Int)) = decide (h = j) := decide_eq_decide.2 (by omega)
  unfold stepC
  simp only [kc]
  have r1 : hasT (dR1 z h q) j ln = if h = j then hasT z.R j ln else if ((dWr z h q).isSome && tchB q ln) = true then false else hasT z.R j ln := by
    unfold dR1
    cases dWr z h q with
    | none => simp
    | some v =>
      simp only [Option.isSome_some, Bool.true_and]
      rw [has_kiA hj hR, kd]
      unfold tchB
      by_cases c : h = j
      · rw [if_pos c, decide_eq_true c]; simp
      · rw [if_neg c, decide_eq_false c]
        cases (q.l.any fun p => decide (p.a / 64#64 = ln)) <;> simp
  unfold dR
  rw [if_pos ok]
  by_cases k5 : q.k = 5
  · rw [if_pos k5, has_setT hR hh hj]
    simp [k5, wrB]
  by_cases k6 : q.k = 6
  · rw [if_neg k5, if_pos k6, has_setT (dR1_len hR) hh hj, r1]
    have w : (dWr z h q).isSome = wrB q.k (dG z h q) := by
      simp only [dWr, dG, ok, if_true, k6, wrB]
      cases dSc z h q <;> simp
    rw [w]
    simp only [k6, if_true, z0, Bool.false_and]
    by_cases c : h = j <;> simp [c]
  · rw [if_neg k5, if_neg k6, r1]
    have w : (dWr z h q).isSome = wrB q.k (dG z h q) := by
      simp only [dWr, dG, ok, if_true, k6, if_false, wrB]
      by_cases k3 : q.k = 3
      · simp [k3]
      by_cases k4 : q.k = 4
      · simp [k4]
      by_cases k8 : q.k = 8
      · simp only [k8]
        by_cases c : dV z q = q.o <;> simp [c]
      · simp [k3, k4, k8]
    rw [w]
    simp only [k5, k6, if_false]


def ksDe : List K := .n .i64 :: ksAsk
def isDe (l : List Sc) : Prop := L2 FitK l ksDe
instance decIsDe (l : List Sc) : Decidable (isDe l) := Classical.propDecidable _
abbrev De := {l : List Sc // isDe l}
def encD (e : De) : List Sc := e.1
def dcD (cs : List Sc) : Option De := if h : isDe cs then some ⟨cs, h⟩ else none
theorem dcD_e (e : De) : dcD (encD e) = some e := by unfold dcD encD; rw [dif_pos e.2]
theorem dcD_d (cs : List Sc) (e : De) (h : dcD cs = some e) : cs = encD e := by
  unfold dcD at h
  split at h
  · simp only [Option.some.injEq] at h; subst h; rfl
  · simp at h
theorem encD_l (e : De) : (encD e).length = 20 := L2.length e.2
def dH (e : De) : Int := gi e.1 0
def dQ (e : De) : Ak := ⟨gi e.1 1, gu e.1 2, gu e.1 3, gi e.1 4, gi e.1 5, gi e.1 6, gu e.1 7, gu e.1 8, gb e.1 9⟩
theorem de_of (e : De) : ∃ (h k : Int) (a b : BitVec 64) (c s op : Int) (d o : BitVec 64) (lv : Bool) (r : List Sc), encD e = .i h :: .i k :: .u a :: .u b :: .i c :: .i s :: .i op :: .u d :: .u o :: .b lv :: r ∧ askR r ∧ dH e = h ∧ dQ e = ⟨k, a, b, c, s, op, d, o, lv⟩ ∧ inR h ∧ inR s := by
  obtain ⟨l, hl⟩ := e
  obtain ⟨x, r1, rfl, k1, h2⟩ := fit_cons hl
  obtain ⟨h, rfl, b0⟩ := fk_i k1
  obtain ⟨k, a, b, c, s, op, d, o, lv, r, rfl, hr, b1, b2, b3, b4⟩ := ask9 h2
  exact ⟨h, k, a, b, c, s, op, d, o, lv, r, rfl, hr, rfl, rfl, ⟨b0.1, b0.2⟩, ⟨b3.1, b3.2⟩⟩
abbrev An := BitVec 64 × Bool
def hsL (L : List De) (T : List An) : List Hs := List.zipWith (fun e t => ⟨dH e, dQ e, t.2⟩) L T
theorem row_drop {α : Type} {f : α → List Sc} {w : Nat} (h : ∀ x, (f x).length = w) {L : List α} {k : Nat} {x : α} (hx : L[k]? = some x) (i : Nat) (hi : i ≤ w) : (L.flatMap f).drop (k * w + i) = (f x).drop i ++ (L.drop (k + 1)).flatMap f := by
  rw [← List.drop_drop, fm_drop h]
  have hk : k < L.length := by
    rcases Nat.lt_or_ge k L.length with h | h
    · exact h
    · rw [List.getElem?_eq_none h] at hx; simp at hx
  rw [List.drop_eq_getElem_cons hk, List.flatMap_cons]
  rw [List.getElem?_eq_getElem hk] at hx
  simp only [Option.some.injEq] at hx
  rw [hx, List.drop_append_of_le_length (by rw [h]; exact hi)]

theorem subH_of_hg {H K : AH} (hl : H.length ≤ K.length) (h : ∀ k, k < H.length → hg K k = hg H k) : subH H K := by
  induction H generalizing K with
  | nil => exact trivial
  | cons o r ih =>
    cases K with
    | nil => simp at hl
    | cons o' r' =>
      refine ⟨.inr ?_, ih (by simpa using hl) fun k hk => ?_⟩
      · have := h 0 (by simp); simpa [hg] using this.symm
      · have := h (k + 1) (by simpa using hk); simpa [hg] using this
theorem nvc14 {p : Prop} {full : Array Oper} {i j : Nat} {A B : AH} (h : nvw A B) (hl : loose full i j = true) : ¬ (loose full i j = true ∧ nvw A B) → p := fun k => absurd ⟨hl, h⟩ k
structure Pst where
  M : Nat × MapE
  R : List Sl
  L : List De
  T : List An
def stp (z : ShS) (p : Pst) (e : De) : Pst :=
  if dOk (z.to p.M p.R) (dH e) (dQ e) = true then ⟨dM (z.to p.M p.R) (dH e) (dQ e), dR (z.to p.M p.R) (dH e) (dQ e), p.L ++ [e], p.T ++ [(dD (z.to p.M p.R) (dH e) (dQ e), dG (z.to p.M p.R) (dH e) (dQ e))]⟩ else p
structure Pin (z : ShS) (k : Nat) (p : Pst) : Prop where
  w : wfE z.ram.n p.M
  r : p.R.length = 8
  e : p.L.length = p.T.length
  k : p.L.length ≤ k
  s : ∀ e ∈ p.L, smB (dQ e).c (dQ e).s = true
  c : ∀ (j : Nat) (ln : BitVec 64), j < 8 → hasT p.R j ln = cntBp (hsL p.L p.T) j ln
theorem hsL_app {L : List De} {T : List An} (h : L.length = T.length) (e : De) (t : An) : hsL (L ++ [e]) (T ++ [t]) = hsL L T ++ [⟨dH e, dQ e, t.2⟩] := by
  unfold hsL
  rw [List.zipWith_append h]; rfl
theorem Pin.step {z : ShS} {k : Nat} {p : Pst} (hz : z.h ≤ 8) (h : Pin z k p) (e : De) : Pin z (k + 1) (stp z p e) := by
  unfold stp
  split
  · rename_i ok
    refine ⟨dM_wf (z := z.to p.M p.R) h.w, dR_len (z := z.to p.M p.R) h.r, by simp only [List.length_append, h.e]; rfl, by have := h.k; simp only [List.length_append, List.length_cons, List.length_nil]; omega, ?_, ?_⟩
    · intro x hx
      rcases List.mem_append.1 hx with g | g
      · exact h.s x g
      · rw [List.mem_singleton] at g
        rw [g]
        exact (may_all (dOk_may ok)).1
    · intro j ln hj
      rw [hsL_app h.e]
      exact inv_step (z := z.to p.M p.R) hz h.r h.c ok j ln hj
  · exact ⟨h.w, h.r, h.e, by have := h.k; omega, h.s, h.c⟩
end
end Go.Proofs.YtcbhelkafelofaaGreat
namespace Go.Proofs.YtcbhelkafelofaaGreat
open Go.Am
set_option linter.unusedSimpArgs false
set_option linter.unusedVariables false
noncomputable section
set_option maxRecDepth 100000

def s_fshap (args : List AV) : Option AV :=
  match args with
  | [.g (.i k :: .u a :: .u b :: .i c :: .i s :: .i op :: .u d :: .u o :: .b lv :: r)] => if r.length = 10 ∧ r.all Sc.pf = true ∧ r.all Sc.one = true then some (.c (.b (formB k a c s op))) else none
  | _ => none
theorem s_fshap_eq {k a b c s op d o lv r} : s_fshap [.g (.i k :: .u a :: .u b :: .i c :: .i s :: .i op :: .u d :: .u o :: .b lv :: r)] = if r.length = 10 ∧ r.all Sc.pf = true ∧ r.all Sc.one = true then some (.c (.b (formB k a c s op))) else none := rfl
set_option maxRecDepth 100000 in
set_option maxHeartbeats 2000000 in
theorem ok_fshap : PuOk Tryz.prog 40 s_fshap := by
  refine pu_ok (tab := [(76, .pu s_aisA), (79, .pu s_ksize), (77, .pu s_alink), (78, .pu s_acond)]) hmix (TabOk.cons (e := .pu s_aisA) ok_aisA (TabOk.cons (e := .pu s_ksize) ok_ksize (TabOk.cons (e := .pu s_alink) ok_alink (TabOk.cons (e := .pu s_acond) ok_acond TabOk.nil)))) Tryz.func40 rfl Tryz.results40 Tryz.ntmps40 (by kernel_rfl) (by kernel_rfl) ?_
  intro args v h
  unfold s_fshap at h
  split at h
  · rename_i k a b c s op d o lv r
    split at h
    · rename_i hc
      simp only [Option.some.injEq] at h; subst h
      have pr := hc.2.1
      have lr := hc.1
      refine ⟨by simp only [List.length_cons, List.length_nil]; decide, by first | rfl | simp only [List.all_cons, List.all_nil, AV.pf, Sc.pf, Bool.and_true, *], by first | rfl | simp only [List.all_cons, List.all_nil, AV.pf, Sc.pf, Bool.and_true, *], ?_⟩
      have rt : r.take 10 = r := List.take_of_length_le (by omega)
      have ro := hc.2.2
      have zr := szA_le k op
      have zn : ¬ szA k op = 0 → (BitVec.ofInt 64 (szA k op) = 0#64) = False := fun h => eq_false fun e => by
        have := congrArg BitVec.toNat e
        rw [BitVec.toNat_ofInt] at this
        have e0 : (0#64).toNat = 0 := rfl
        rw [e0] at this
        omega
      have fin : ∀ z, ¬ (k = 2 ∨ k = 3) → szA k op = z → formB k a c s op = (decide (¬ z = 0) && (decide (s = z) && (decide (c = 0) && decide (a % BitVec.ofInt 64 z = 0#64)))) := fun z h1 h2 => by unfold formB; rw [if_neg h1, h2]
      have fi2 : (k = 2 ∨ k = 3) → formB k a c s op = ((decide (s = 1) || (decide (s = 2) || (decide (s = 4) || decide (s = 8)))) && (decide (0 ≤ c) && decide (c < s))) := fun h => by
        unfold formB
        rw [if_pos h, Bool.eq_iff_iff]
        simp only [p2B, smB, Bool.and_eq_true, Bool.or_eq_true, decide_eq_true_eq]
        omega
      by_cases h2 : k = 2 ∨ k = 3
      · rw [fi2 h2]
        rcases h2 with rfl | rfl
        all_goals by_cases s1 : s = 1
        all_goals by_cases s2 : s = 2
        all_goals by_cases s4 : s = 4
        all_goals by_cases s8 : s = 8
        all_goals by_cases c0 : 0 ≤ c
        all_goals by_cases c1 : c < s
        all_goals (try simp (config := { maxSteps := 10000000 }) only [go_sem, seval, Sc.pf, lr, rt, ro, pr, s1, s2, s4, s8, c0, c1]; repeat (simp (disch := omega) only [w64_d, ipos, ineg, dpos, dneg]; try simp (config := { maxSteps := 10000000 }) only [go_sem, seval, Sc.pf, lr, rt, ro, pr, s1, s2, s4, s8, c0, c1]))
        all_goals (simp_all <;> done)
      have fin := fun z => fin z h2
      have hk2 : ¬ k = 2 := fun e => h2 (.inl e)
      have hk3 : ¬ k = 3 := fun e => h2 (.inr e)
      by_cases h1 : k = 1
      · subst h1
        have hz : szA 1 op = 4 := rfl
        rw [fin _ hz]
        (try simp (config := { maxSteps := 10000000 }) only [go_sem, seval, s_aisA_eq, s_ksize_eq, s_alink_eq, s_acond_eq, Sc.pf, lr, rt, ro]; repeat (simp (disch := omega) only [w64_d, ipos, ineg, dpos, dneg]; try simp (config := { maxSteps := 10000000 }) only [go_sem, seval, s_aisA_eq, s_ksize_eq, s_alink_eq, s_acond_eq, Sc.pf, lr, rt, ro]))
        repeat' (first
          | (refine cnd_by (fun h => ?_) (fun h => ?_) <;> (try simp only [decide_eq_true_eq, decide_eq_false_iff_not, Bool.not_eq_true', Bool.not_eq_false', Bool.not_eq_true, Bool.not_eq_false, Bool.and_eq_true, beq_iff_eq, beq_eq_false_iff_ne, ne_eq, Bool.or_eq_true] at h) <;> ((try simp (config := { maxSteps := 10000000 }) only [go_sem, seval, h]; repeat (simp (disch := omega) only [w64_d, ipos, ineg, dpos, dneg]; try simp (config := { maxSteps := 10000000 }) only [go_sem, seval, h]))))
          | (refine grd_by (fun h => ?_) (fun h => ?_) <;> (try simp only [decide_eq_true_eq, decide_eq_false_iff_not, Bool.not_eq_true', Bool.not_eq_false', Bool.not_eq_true, Bool.not_eq_false, Bool.and_eq_true, beq_iff_eq, beq_eq_false_iff_ne, ne_eq, Bool.or_eq_true] at h) <;> ((try simp (config := { maxSteps := 10000000 }) only [go_sem, seval, h]; repeat (simp (disch := omega) only [w64_d, ipos, ineg, dpos, dneg]; try simp (config := { maxSteps := 10000000 }) only [go_sem, seval, h]))))
          | (refine grdd_by (fun h => ?_) (fun h => ?_) <;> (try simp only [decide_eq_true_eq, decide_eq_false_iff_not, Bool.not_eq_true', Bool.not_eq_false', Bool.not_eq_true, Bool.not_eq_false, Bool.and_eq_true, beq_iff_eq, beq_eq_false_iff_ne, ne_eq, Bool.or_eq_true] at h) <;> ((try simp (config := { maxSteps := 10000000 }) only [go_sem, seval, h]; repeat (simp (disch := omega) only [w64_d, ipos, ineg, dpos, dneg]; try simp (config := { maxSteps := 10000000 }) only [go_sem, seval, h])))))
        all_goals (simp_all <;> done)
      by_cases h7 : k = 7
      · subst h7
        have hz : szA 7 op = 8 := rfl
        rw [fin _ hz]
        (try simp (config := { maxSteps := 10000000 }) only [go_sem, seval, s_aisA_eq, s_ksize_eq, s_alink_eq, s_acond_eq, Sc.pf, lr, rt, ro]; repeat (simp (disch := omega) only [w64_d, ipos, ineg, dpos, dneg]; try simp (config := { maxSteps := 10000000 }) only [go_sem, seval, s_aisA_eq, s_ksize_eq, s_alink_eq, s_acond_eq, Sc.pf, lr, rt, ro]))
        repeat' (first
          | (refine cnd_by (fun h => ?_) (fun h => ?_) <;> (try simp only [decide_eq_true_eq, decide_eq_false_iff_not, Bool.not_eq_true', Bool.not_eq_false', Bool.not_eq_true, Bool.not_eq_false, Bool.and_eq_true, beq_iff_eq, beq_eq_false_iff_ne, ne_eq, Bool.or_eq_true] at h) <;> ((try simp (config := { maxSteps := 10000000 }) only [go_sem, seval, h]; repeat (simp (disch := omega) only [w64_d, ipos, ineg, dpos, dneg]; try simp (config := { maxSteps := 10000000 }) only [go_sem, seval, h]))))
          | (refine grd_by (fun h => ?_) (fun h => ?_) <;> (try simp only [decide_eq_true_eq, decide_eq_false_iff_not, Bool.not_eq_true', Bool.not_eq_false', Bool.not_eq_true, Bool.not_eq_false, Bool.and_eq_true, beq_iff_eq, beq_eq_false_iff_ne, ne_eq, Bool.or_eq_true] at h) <;> ((try simp (config := { maxSteps := 10000000 }) only [go_sem, seval, h]; repeat (simp (disch := omega) only [w64_d, ipos, ineg, dpos, dneg]; try simp (config := { maxSteps := 10000000 }) only [go_sem, seval, h]))))
          | (refine grdd_by (fun h => ?_) (fun h => ?_) <;> (try simp only [decide_eq_true_eq, decide_eq_false_iff_not, Bool.not_eq_true', Bool.not_eq_false', Bool.not_eq_true, Bool.not_eq_false, Bool.and_eq_true, beq_iff_eq, beq_eq_false_iff_ne, ne_eq, Bool.or_eq_true] at h) <;> ((try simp (config := { maxSteps := 10000000 }) only [go_sem, seval, h]; repeat (simp (disch := omega) only [w64_d, ipos, ineg, dpos, dneg]; try simp (config := { maxSteps := 10000000 }) only [go_sem, seval, h])))))
        all_goals (simp_all <;> done)
      by_cases h8 : k = 8
      · subst h8
        have hz : szA 8 op = 8 := rfl
        rw [fin _ hz]
        (try simp (config := { maxSteps := 10000000 }) only [go_sem, seval, s_aisA_eq, s_ksize_eq, s_alink_eq, s_acond_eq, Sc.pf, lr, rt, ro]; repeat (simp (disch := omega) only [w64_d, ipos, ineg, dpos, dneg]; try simp (config := { maxSteps := 10000000 }) only [go_sem, seval, s_aisA_eq, s_ksize_eq, s_alink_eq, s_acond_eq, Sc.pf, lr, rt, ro]))
        repeat' (first
          | (refine cnd_by (fun h => ?_) (fun h => ?_) <;> (try simp only [decide_eq_true_eq, decide_eq_false_iff_not, Bool.not_eq_true', Bool.not_eq_false', Bool.not_eq_true, Bool.not_eq_false, Bool.and_eq_true, beq_iff_eq, beq_eq_false_iff_ne, ne_eq, Bool.or_eq_true] at h) <;> ((try simp (config := { maxSteps := 10000000 }) only [go_sem, seval, h]; repeat (simp (disch := omega) only [w64_d, ipos, ineg, dpos, dneg]; try simp (config := { maxSteps := 10000000 }) only [go_sem, seval, h]))))
          | (refine grd_by (fun h => ?_) (fun h => ?_) <;> (try simp only [decide_eq_true_eq, decide_eq_false_iff_not, Bool.not_eq_true', Bool.not_eq_false', Bool.not_eq_true, Bool.not_eq_false, Bool.and_eq_true, beq_iff_eq, beq_eq_false_iff_ne, ne_eq, Bool.or_eq_true] at h) <;> ((try simp (config := { maxSteps := 10000000 }) only [go_sem, seval, h]; repeat (simp (disch := omega) only [w64_d, ipos, ineg, dpos, dneg]; try simp (config := { maxSteps := 10000000 }) only [go_sem, seval, h]))))
          | (refine grdd_by (fun h => ?_) (fun h => ?_) <;> (try simp only [decide_eq_true_eq, decide_eq_false_iff_not, Bool.not_eq_true', Bool.not_eq_false', Bool.not_eq_true, Bool.not_eq_false, Bool.and_eq_true, beq_iff_eq, beq_eq_false_iff_ne, ne_eq, Bool.or_eq_true] at h) <;> ((try simp (config := { maxSteps := 10000000 }) only [go_sem, seval, h]; repeat (simp (disch := omega) only [w64_d, ipos, ineg, dpos, dneg]; try simp (config := { maxSteps := 10000000 }) only [go_sem, seval, h])))))
        all_goals (simp_all <;> done)
      by_cases h4 : k = 4
      · subst h4
        cases hb : isAB op
        · have hz : szA 4 op = 0 := by simp [szA, hb]
          rw [fin _ hz]
          (try simp (config := { maxSteps := 10000000 }) only [go_sem, seval, s_aisA_eq, s_ksize_eq, s_alink_eq, s_acond_eq, Sc.pf, lr, rt, ro, hb]; repeat (simp (disch := omega) only [w64_d, ipos, ineg, dpos, dneg]; try simp (config := { maxSteps := 10000000 }) only [go_sem, seval, s_aisA_eq, s_ksize_eq, s_alink_eq, s_acond_eq, Sc.pf, lr, rt, ro, hb]))
        · have hz : szA 4 op = sizeI op := by simp [szA, hb]
          rw [fin _ hz]
          rw [hz] at zn zr
          (try simp (config := { maxSteps := 10000000 }) only [go_sem, seval, s_aisA_eq, s_ksize_eq, s_alink_eq, s_acond_eq, Sc.pf, lr, rt, ro, hb]; repeat (simp (disch := omega) only [w64_d, ipos, ineg, dpos, dneg]; try simp (config := { maxSteps := 10000000 }) only [go_sem, seval, s_aisA_eq, s_ksize_eq, s_alink_eq, s_acond_eq, Sc.pf, lr, rt, ro, hb]))
          generalize sizeI op = z at *
          by_cases h0 : z = 0
          · (try simp (config := { maxSteps := 10000000 }) only [go_sem, seval, h0]; repeat (simp (disch := omega) only [w64_d, ipos, ineg, dpos, dneg]; try simp (config := { maxSteps := 10000000 }) only [go_sem, seval, h0]))
          have z1 := zn h0
          have z2 : 0 < z := by omega
          by_cases e1 : s = z
          all_goals by_cases e2 : c = 0
          all_goals (try simp (config := { maxSteps := 10000000 }) only [go_sem, seval, lr, h0, z1, z2, e1, e2]; repeat (simp (disch := omega) only [w64_d, ipos, ineg, dpos, dneg]; try simp (config := { maxSteps := 10000000 }) only [go_sem, seval, lr, h0, z1, z2, e1, e2]))
      by_cases h5 : k = 5
      · subst h5
        cases hb : linkB op
        · have hz : szA 5 op = 0 := by simp [szA, hb]
          rw [fin _ hz]
          (try simp (config := { maxSteps := 10000000 }) only [go_sem, seval, s_aisA_eq, s_ksize_eq, s_alink_eq, s_acond_eq, Sc.pf, lr, rt, ro, hb]; repeat (simp (disch := omega) only [w64_d, ipos, ineg, dpos, dneg]; try simp (config := { maxSteps := 10000000 }) only [go_sem, seval, s_aisA_eq, s_ksize_eq, s_alink_eq, s_acond_eq, Sc.pf, lr, rt, ro, hb]))
        · have hz : szA 5 op = sizeI op := by simp [szA, hb]
          rw [fin _ hz]
          rw [hz] at zn zr
          (try simp (config := { maxSteps := 10000000 }) only [go_sem, seval, s_aisA_eq, s_ksize_eq, s_alink_eq, s_acond_eq, Sc.pf, lr, rt, ro, hb]; repeat (simp (disch := omega) only [w64_d, ipos, ineg, dpos, dneg]; try simp (config := { maxSteps := 10000000 }) only [go_sem, seval, s_aisA_eq, s_ksize_eq, s_alink_eq, s_acond_eq, Sc.pf, lr, rt, ro, hb]))
          generalize sizeI op = z at *
          by_cases h0 : z = 0
          · (try simp (config := { maxSteps := 10000000 }) only [go_sem, seval, h0]; repeat (simp (disch := omega) only [w64_d, ipos, ineg, dpos, dneg]; try simp (config := { maxSteps := 10000000 }) only [go_sem, seval, h0]))
          have z1 := zn h0
          have z2 : 0 < z := by omega
          by_cases e1 : s = z
          all_goals by_cases e2 : c = 0
          all_goals (try simp (config := { maxSteps := 10000000 }) only [go_sem, seval, lr, h0, z1, z2, e1, e2]; repeat (simp (disch := omega) only [w64_d, ipos, ineg, dpos, dneg]; try simp (config := { maxSteps := 10000000 }) only [go_sem, seval, lr, h0, z1, z2, e1, e2]))
      by_cases h6 : k = 6
      · subst h6
        cases hb : condB op
        · have hz : szA 6 op = 0 := by simp [szA, hb]
          rw [fin _ hz]
          (try simp (config := { maxSteps := 10000000 }) only [go_sem, seval, s_aisA_eq, s_ksize_eq, s_alink_eq, s_acond_eq, Sc.pf, lr, rt, ro, hb]; repeat (simp (disch := omega) only [w64_d, ipos, ineg, dpos, dneg]; try simp (config := { maxSteps := 10000000 }) only [go_sem, seval, s_aisA_eq, s_ksize_eq, s_alink_eq, s_acond_eq, Sc.pf, lr, rt, ro, hb]))
        · have hz : szA 6 op = sizeI op := by simp [szA, hb]
          rw [fin _ hz]
          rw [hz] at zn zr
          (try simp (config := { maxSteps := 10000000 }) only [go_sem, seval, s_aisA_eq, s_ksize_eq, s_alink_eq, s_acond_eq, Sc.pf, lr, rt, ro, hb]; repeat (simp (disch := omega) only [w64_d, ipos, ineg, dpos, dneg]; try simp (config := { maxSteps := 10000000 }) only [go_sem, seval, s_aisA_eq, s_ksize_eq, s_alink_eq, s_acond_eq, Sc.pf, lr, rt, ro, hb]))
          generalize sizeI op = z at *
          by_cases h0 : z = 0
          · (try simp (config := { maxSteps := 10000000 }) only [go_sem, seval, h0]; repeat (simp (disch := omega) only [w64_d, ipos, ineg, dpos, dneg]; try simp (config := { maxSteps := 10000000 }) only [go_sem, seval, h0]))
          have z1 := zn h0
          have z2 : 0 < z := by omega
          by_cases e1 : s = z
          all_goals by_cases e2 : c = 0
          all_goals (try simp (config := { maxSteps := 10000000 }) only [go_sem, seval, lr, h0, z1, z2, e1, e2]; repeat (simp (disch := omega) only [w64_d, ipos, ineg, dpos, dneg]; try simp (config := { maxSteps := 10000000 }) only [go_sem, seval, lr, h0, z1, z2, e1, e2]))
      have hz : szA k op = 0 := by simp [szA, *]
      rw [fin _ hz]
      (try simp (config := { maxSteps := 10000000 }) only [go_sem, seval, s_aisA_eq, s_ksize_eq, s_alink_eq, s_acond_eq, Sc.pf, lr, rt, ro, h1, hk2, hk3, h4, h5, h6, h7, h8]; repeat (simp (disch := omega) only [w64_d, ipos, ineg, dpos, dneg]; try simp (config := { maxSteps := 10000000 }) only [go_sem, seval, s_aisA_eq, s_ksize_eq, s_alink_eq, s_acond_eq, Sc.pf, lr, rt, ro, h1, hk2, hk3, h4, h5, h6, h7, h8]))
    · simp at h
  · simp at h
end
end Go.Proofs.YtcbhelkafelofaaGreat
namespace Go.Proofs.YtcbhelkafelofaaGreat
open Go.Am
set_option linter.unusedSimpArgs false
set_option linter.unusedVariables false
noncomputable section
set_option maxRecDepth 100000

def uyF : List Sc → Option (List (BitVec 64))
  | [] => some []
  | .u n :: r => (uyF r).map (n :: ·)
  | _ => none
theorem uyF_inv {cs : List Sc} {L : List (BitVec 64)} (h : uyF cs = some L) : cs = L.map gU := by
  induction cs generalizing L with
  | nil => simp [uyF] at h; subst h; rfl
  | cons a r ih =>
    unfold uyF at h
    split at h
    · simp_all
    · rename_i n r' heq
      simp only [List.cons.injEq] at heq
      obtain ⟨rfl, rfl⟩ := heq
      rw [Option.map_eq_some_iff] at h
      obtain ⟨l', h5, rfl⟩ := h
      rw [ih h5]; rfl
    · simp at h
theorem uyF_of (L : List (BitVec 64)) : uyF (L.map gU) = some L := by
  induction L with
  | nil => rfl
  | cons a r ih => rw [List.map_cons]; simp [gU, uyF, ih]
def uvF (H : AH) (id v n : Nat) : Option (List (BitVec 64)) :=
  match hg H id with
  | .vec 1 cs => if v = cs.length ∧ n ≤ cs.length ∧ n ≤ 1000000 then uyF (cs.take n) else none
  | _ => none
theorem uvF_inv {H : AH} {id v n : Nat} {L : List (BitVec 64)} (h : uvF H id v n = some L) : ∃ X, hg H id = .vec 1 (L.map gU ++ X) ∧ v = L.length + X.length ∧ n = L.length ∧ n ≤ 1000000 := by
  unfold uvF at h
  split at h <;> try (simp at h; done)
  rename_i cs hx
  split at h <;> try (simp at h; done)
  rename_i hc
  have e := uyF_inv h
  have l : n = L.length := by have := congrArg List.length e; simp at this; omega
  refine ⟨cs.drop n, ?_, ?_, l, hc.2.2⟩
  · rw [hx, ← e, List.take_append_drop]
  · rw [List.length_drop]; omega
theorem uvF_of {H : AH} {id v : Nat} {L : List (BitVec 64)} {X : List Sc} (h : hg H id = .vec 1 (L.map gU ++ X)) (hv : v = L.length + X.length) (hl : L.length ≤ 1000000) : uvF H id v L.length = some L := by
  unfold uvF
  simp only [h]
  rw [if_pos ⟨by simp [hv], by simp, hl⟩, List.take_left' (by simp), uyF_of]
def idxW (L : List (BitVec 64)) (q : BitVec 64) : Int := match L.findIdx? (fun x => decide (q = x)) with
  | some i => i
  | none => -1
theorem idxW_in (L : List (BitVec 64)) (q : BitVec 64) : decide (0 ≤ idxW L q) = decide (q ∈ L) := by
  unfold idxW
  cases h : L.findIdx? (fun x => decide (q = x)) with
  | none =>
    have := List.findIdx?_eq_none_iff.1 h
    have hn : ¬ q ∈ L := fun hk => by have := this q hk; simp at this
    simp [hn]
  | some i =>
    obtain ⟨hi, h1, _⟩ := List.findIdx?_eq_some_iff_getElem.1 h
    have hk : q ∈ L := by simp at h1; rw [h1]; exact List.getElem_mem hi
    simp [hk]
section
variable {H : AH}
def s_fidxW (args : List AV) (H : AH) : Option AV :=
  match args with
  | [.c (.sl id 0 v n), .c (.u q)] => (uvF H id v n).map fun L => .c (.i (idxW L q))
  | _ => none
theorem s_fidxW_eq {id v n : Nat} {q : BitVec 64} {L : List (BitVec 64)} (h : uvF H id v n = some L) : s_fidxW [.c (.sl id 0 v n), .c (.u q)] H = some (.c (.i (idxW L q))) := by simp only [s_fidxW, h, Option.map_some]
set_option maxRecDepth 100000 in
set_option maxHeartbeats 2000000 in
theorem ok_fidxW : FpOk Tryz.prog 130 (fun args H => (s_fidxW args H).map fun v => (v, H)) := by
  refine fq_ok (s := s_fidxW) (tab := []) hmix TabOk.nil Tryz.func130 rfl Tryz.results130 Tryz.ntmps130 (by kernel_rfl) (by kernel_rfl) ?_
  intro args H v h hargs hH
  unfold s_fidxW at h
  split at h <;> try (simp at h; done)
  rename_i id v n q
  rw [Option.map_eq_some_iff] at h
  obtain ⟨L, hL, rfl⟩ := h
  refine ⟨by simp only [List.length_cons, List.length_nil]; decide, rfl, ?_⟩
  obtain ⟨X, ho, rfl, rfl, hm⟩ := uvF_inv hL
  (try simp (config := { maxSteps := 10000000 }) only [go_sem, seval]; repeat (simp (disch := omega) only [w64_d, ipos, ineg, dpos, dneg]; try simp (config := { maxSteps := 10000000 }) only [go_sem, seval]))
  rw [arun_loop]
  refine ⟨{k : Nat // k ≤ L.length ∧ ∀ j, j < k → ∀ y, L[j]? = some y → q ≠ y}, fun k => ([(0, .c (.sl id 0 (L.length + X.length) L.length)), (1, .c (.u q)), (7, .c (.i L.length)), (8, .c (.i k.1))], H), fun k => L.length - k.1, ⟨0, by omega, fun j hj => absurd hj (Nat.not_lt_zero _)⟩, wkF (by simp [Am.get]), ?_⟩
  rintro ⟨k, hk, hj⟩
  have k0 : (0 : Int) ≤ (k : Int) := by omega
  by_cases hlt : k < L.length
  rotate_left
  · obtain rfl : k = L.length := by omega
    have kI : ¬ ((L.length : Int) < L.length) := by omega
    have e : idxW L q = -1 := by
      unfold idxW
      rw [List.findIdx?_eq_none_iff.2 (fun y hy => by
        obtain ⟨j, hjl, rfl⟩ := List.mem_iff_getElem.1 hy
        simpa using hj j hjl _ (List.getElem?_eq_getElem hjl))]
    (try simp (config := { maxSteps := 10000000 }) only [go_sem, seval, kI, e]; repeat (simp (disch := omega) only [w64_d, ipos, ineg, dpos, dneg]; try simp (config := { maxSteps := 10000000 }) only [go_sem, seval, kI, e]))
    exact subH_refl _
  have kI : ((k : Int) < (L.length : Int)) := by omega
  obtain ⟨y, hy⟩ : ∃ y, L[k]? = some y := ⟨_, List.getElem?_eq_getElem hlt⟩
  have e1 : w64 ((k : Int) + 1) = ((k + 1 : Nat) : Int) := by rw [w64_of (by omega)]; omega
  have rl : L.length + X.length = (hg H id).row := by rw [ho]; simp [AObj.row]
  have g1 : (hg H id).cells.getD k .any = .u y := by
    rw [ho]
    show (L.map gU ++ X).getD k .any = _
    rw [List.getD_eq_getElem?_getD, List.getElem?_append_left (by simpa using hlt), List.getElem?_map, hy]; rfl
  have b1 : k + 1 ≤ (hg H id).cells.length := by rw [ho]; simp [AObj.cells]; omega
  by_cases hq : q = y
  · have e : idxW L q = (k : Int) := by
      unfold idxW
      rw [List.findIdx?_eq_some_iff_getElem.2 ⟨hlt, by rw [List.getElem?_eq_getElem hlt] at hy; simp at hy; simp [hy, hq], fun j hjl => by
        have := hj j hjl _ (List.getElem?_eq_getElem (by omega))
        simpa using this⟩]
    subst hq
    (try simp (config := { maxSteps := 10000000 }) only [go_sem, seval, kI, k0, rl, b1, g1, e, Int.toNat_natCast]; repeat (simp (disch := omega) only [w64_d, ipos, ineg, dpos, dneg]; try simp (config := { maxSteps := 10000000 }) only [go_sem, seval, kI, k0, rl, b1, g1, e, Int.toNat_natCast]))
    exact subH_refl _
  · (try simp (config := { maxSteps := 10000000 }) only [go_sem, seval, kI, k0, rl, b1, g1, hq, e1, Int.toNat_natCast]; repeat (simp (disch := omega) only [w64_d, ipos, ineg, dpos, dneg]; try simp (config := { maxSteps := 10000000 }) only [go_sem, seval, kI, k0, rl, b1, g1, hq, e1, Int.toNat_natCast]))
    exact ⟨⟨k + 1, by omega, fun j hj' z hz => by
      rcases Nat.lt_succ_iff_lt_or_eq.1 hj' with h' | rfl
      · exact hj j h' z hz
      · rw [hy] at hz; simp at hz; subst hz; exact hq⟩, by simp only; omega, wkF (by simp [Am.get, rl])⟩
def s_fcontW (args : List AV) (H : AH) : Option AV :=
  match args with
  | [.c (.sl id 0 v n), .c (.u q)] => (uvF H id v n).map fun L => .c (.b (decide (q ∈ L)))
  | _ => none
theorem s_fcontW_eq {id v n : Nat} {q : BitVec 64} {L : List (BitVec 64)} (h : uvF H id v n = some L) : s_fcontW [.c (.sl id 0 v n), .c (.u q)] H = some (.c (.b (decide (q ∈ L)))) := by simp only [s_fcontW, h, Option.map_some]
set_option maxRecDepth 100000 in
set_option maxHeartbeats 2000000 in
theorem ok_fcontW : FpOk Tryz.prog 101 (fun args H => (s_fcontW args H).map fun v => (v, H)) := by
  refine fq_ok (s := s_fcontW) (tab := [(130, .fq s_fidxW)]) hmix (TabOk.cons (e := .fq s_fidxW) ok_fidxW TabOk.nil) Tryz.func101 rfl Tryz.results101 Tryz.ntmps101 (by kernel_rfl) (by kernel_rfl) ?_
  intro args H v h hargs hH
  unfold s_fcontW at h
  split at h <;> try (simp at h; done)
  rename_i id v n q
  rw [Option.map_eq_some_iff] at h
  obtain ⟨L, hL, rfl⟩ := h
  refine ⟨by simp only [List.length_cons, List.length_nil]; decide, rfl, ?_⟩
  have q1 := s_fidxW_eq (q := q) hL
  have q2 := idxW_in L q
  (try simp (config := { maxSteps := 10000000 }) only [go_sem, seval, q1, q2]; repeat (simp (disch := omega) only [w64_d, ipos, ineg, dpos, dneg]; try simp (config := { maxSteps := 10000000 }) only [go_sem, seval, q1, q2]))
  exact subH_refl _
end
end
end Go.Proofs.YtcbhelkafelofaaGreat
namespace Go.Proofs.YtcbhelkafelofaaGreat
open Go.Am
set_option linter.unusedSimpArgs false
set_option linter.unusedVariables false
noncomputable section
set_option maxRecDepth 100000

structure Fw where
  p : Nat
  id : Nat
  h : Int
  t : Int
  n : Int
  b : Int
  B : List Int
  R : List Sl
  bus : Sc
  m : List Sc
def fwC (s : Fw) (R : List Sl) : List Sc := wdC s.h s.t s.n s.b (.sl s.id 0 s.B.length s.B.length) (tabC R) s.bus s.m
structure FwI (H : AH) (s : Fw) : Prop where
  o : hg H s.p = .own (fwC s s.R)
  v : hg H s.id = .vec 1 (s.B.flatMap e8F)
  l : s.R.length = 8
  b0 : 0 < s.B.length
  b1 : s.B.length ≤ 262144
  lm : s.m.length = 321
  hh : s.h ≤ 8
theorem fwC_len {s : Fw} {R : List Sl} (h : R.length = 8) (hm : s.m.length = 321) : (fwC s R).length = 343 := by
  unfold fwC wdC
  simp only [List.length_cons, List.length_append, tabC_l h, hm]
theorem fwC_inj {s t : Fw} (h : fwC s s.R = fwC t t.R) (hs : s.R.length = 8) (ht : t.R.length = 8) : s.h = t.h ∧ s.t = t.t ∧ s.n = t.n ∧ s.b = t.b ∧ s.id = t.id ∧ s.R = t.R ∧ s.bus = t.bus ∧ s.m = t.m := by
  unfold fwC wdC at h
  simp only [List.cons.injEq, Sc.i.injEq, Sc.sl.injEq] at h
  obtain ⟨a1, a2, a3, a4, a5, a6⟩ := h
  obtain ⟨c1, c2⟩ := List.append_inj a6 (by rw [tabC_l hs, tabC_l ht])
  simp only [List.cons.injEq] at c2
  exact ⟨a1, a2, a3, a4, a5.1, tabC_inj hs ht c1, c2.1, c2.2⟩
theorem e8w_inj : ∀ {L M : List Int}, L.flatMap e8F = M.flatMap e8F → L = M := fun {L M} h => by
  have := byF_of L
  rw [h, byF_of] at this
  simpa using this.symm
theorem FwI.uniq {H : AH} {s t : Fw} (h : FwI H s) (g : FwI H t) (hp : s.p = t.p) : s = t := by
  have e := h.o
  rw [hp, g.o] at e
  simp only [AObj.own.injEq] at e
  obtain ⟨a1, a2, a3, a4, a5, a6, a7, a8⟩ := fwC_inj e.symm h.l g.l
  have e2 := h.v
  rw [a5, g.v] at e2
  simp only [AObj.vec.injEq, true_and] at e2
  have a9 := (e8w_inj e2).symm
  cases s
  cases t
  simp only at *
  subst hp a1 a2 a3 a4 a5 a6 a7 a8 a9
  rfl
def fwQ (H : AH) (p : Nat) : Option Fw := open Classical in if h : ∃ s, FwI H s ∧ s.p = p then some h.choose else none
theorem fwQ_of {H : AH} {s : Fw} (h : FwI H s) : fwQ H s.p = some s := by
  unfold fwQ
  have e : ∃ t, FwI H t ∧ t.p = s.p := ⟨s, h, rfl⟩
  rw [dif_pos e, e.choose_spec.1.uniq h e.choose_spec.2]
theorem fwQ_inv {H : AH} {p : Nat} {s : Fw} (h : fwQ H p = some s) : FwI H s ∧ s.p = p := by
  unfold fwQ at h
  split at h
  · rename_i e
    simp only [Option.some.injEq] at h
    rw [← h]; exact e.choose_spec
  · simp at h
theorem FwI.lp {H : AH} {s : Fw} (h : FwI H s) : s.p < H.length := hg_lt (by rw [h.o]; rfl)
theorem FwI.li {H : AH} {s : Fw} (h : FwI H s) : s.id < H.length := hg_lt (by rw [h.v]; rfl)
theorem FwI.ne {H : AH} {s : Fw} (h : FwI H s) : s.p ≠ s.id := fun e => by
  have h1 := h.o
  rw [e, h.v] at h1
  exact AObj.noConfusion h1
theorem FwI.app {H : AH} {s : Fw} (h : FwI H s) (X : AH) : FwI (H ++ X) s := ⟨by rw [hg_lt' h.lp]; exact h.o, by rw [hg_lt' h.li]; exact h.v, h.l, h.b0, h.b1, h.lm, h.hh⟩
theorem FwI.R {H : AH} {s : Fw} (h : FwI H s) : wdR H s.p = some (.sl s.id 0 s.B.length s.B.length, s.B) := wdV_R (wdV_of h.o h.v)
def Fw.to (s : Fw) (B : List Int) (R : List Sl) : Fw := ⟨s.p, s.id, s.h, s.t, s.n, s.b, B, R, s.bus, s.m⟩
def fwSet (H : AH) (s : Fw) (B : List Int) (R : List Sl) : AH := (H.set s.id (.vec 1 (B.flatMap e8F))).set s.p (.own (fwC s R))
theorem fwSet_len {H : AH} {s : Fw} {B : List Int} {R : List Sl} : (fwSet H s B R).length = H.length := by unfold fwSet; simp
theorem FwI.set {H : AH} {s : Fw} (h : FwI H s) {B : List Int} {R : List Sl} (hB : B.length = s.B.length) (hR : R.length = 8) : FwI (fwSet H s B R) (s.to B R) := by
  refine ⟨?_, ?_, hR, by have := h.b0; simp only [Fw.to]; omega, by have := h.b1; simp only [Fw.to]; omega, h.lm, h.hh⟩
  · show hg (fwSet H s B R) s.p = .own (wdC s.h s.t s.n s.b (.sl s.id 0 B.length B.length) (tabC R) s.bus s.m)
    unfold fwSet
    rw [hg_set_same (by rw [List.length_set]; exact h.lp), hB]; rfl
  · show hg (fwSet H s B R) s.id = _
    unfold fwSet
    rw [hg_set_ne' h.ne, hg_set_same h.li]; rfl
theorem FwI.self {H : AH} {s : Fw} (h : FwI H s) : fwSet H s s.B s.R = H := by
  unfold fwSet
  rw [setF_self h.v h.li]
  exact setF_self h.o h.lp
theorem fwSet_set {H : AH} {s : Fw} (h : FwI H s) (B B' : List Int) (R R' : List Sl) (hB : B.length = s.B.length) : fwSet (fwSet H s B R) (s.to B R) B' R' = fwSet H s B' R' := by
  unfold fwSet
  show ((((H.set s.id _).set s.p _).set s.id _).set s.p (.own (wdC s.h s.t s.n s.b (.sl s.id 0 B.length B.length) (tabC R') s.bus s.m))) = _
  rw [List.set_comm _ _ h.ne, List.set_set, List.set_set, hB]; rfl
theorem fwSet_app {H : AH} {s : Fw} (h : FwI H s) (X : AH) (B : List Int) (R : List Sl) : fwSet (H ++ X) s B R = fwSet H s B R ++ X := by
  unfold fwSet
  rw [List.set_append_left _ _ h.li, List.set_append_left _ _ (by rw [List.length_set]; exact h.lp)]
theorem e8w_bel (B : List Int) (n : Nat) : (B.flatMap e8F).all (Sc.bel n) = true := by
  rw [List.all_flatMap]; exact List.all_eq_true.2 fun _ _ => rfl
theorem FwI.bel {H : AH} {s : Fw} (h : FwI H s) (hH : belH H = true) (B : List Int) (R : List Sl) : belH (fwSet H s B R) = true := by
  unfold fwSet
  refine bel_set' (bel_set' hH (e8w_bel B _)) ?_
  have := bel_at hH s.p
  rw [h.o] at this
  rw [List.length_set]
  simp only [AObj.cells, AObj.scs, fwC, wdC, List.all_cons, List.all_append, tabC_bel, Bool.true_and, Sc.bel, Bool.and_eq_true, decide_eq_true_eq] at this ⊢
  exact this
theorem fwC_tab {s : Fw} {R : List Sl} (h : R.length = 8) : ((fwC s R).drop 5).take 16 = tabC R := by
  unfold fwC wdC
  show (tabC R ++ s.bus :: s.m).take 16 = _
  exact List.take_left' (tabC_l h)
theorem fwC_wr {s : Fw} {R : List Sl} {k : Nat} (hR : R.length = 8) (hk : k < 8) (x : Sl) : wr (fwC s R) (5 + k * 2) (slC x) = fwC s (R.set k x) := by
  have e := wr_mid (A := [.i s.h, .i s.t, .i s.n, .i s.b, .sl s.id 0 s.B.length s.B.length]) (M := tabC R) (B := s.bus :: s.m) (a := slC x) (i := k * 2) (by rw [tabC_l hR, slC_l]; omega)
  have e2 := wr_fm slC_l (L := R) (k := k) (x := x) (by omega)
  unfold fwC wdC
  show wr ([.i s.h, .i s.t, .i s.n, .i s.b, .sl s.id 0 s.B.length s.B.length] ++ (tabC R ++ s.bus :: s.m)) (5 + k * 2) (slC x) = _
  rw [show (5 : Nat) = ([.i s.h, .i s.t, .i s.n, .i s.b, .sl s.id 0 s.B.length s.B.length] : List Sc).length from rfl, e]
  unfold tabC at e2 ⊢
  rw [e2]; rfl
def lbW (v : BitVec 64) (i : Nat) : Int := (((v >>> (8 * i)).setWidth 8).toNat : Int)
def lbL (v : BitVec 64) (n : Nat) : List Int := (List.range n).map (lbW v)
theorem lbL_len {v : BitVec 64} {n : Nat} : (lbL v n).length = n := by simp [lbL]
theorem lbL_0 {v : BitVec 64} : lbL v 0 = [] := rfl
theorem lbL_s {v : BitVec 64} {n : Nat} : lbL v (n + 1) = lbL v n ++ [lbW v n] := by unfold lbL; rw [List.range_succ, List.map_append]; rfl
theorem lbW_wrap {v : BitVec 64} {i : Nat} : IntKind.u8.wrap ((v >>> (8 * i)).toNat : Int) = lbW v i := by
  have := u_by (v := v >>> (8 * i))
  simp only [byC, Sc.k.injEq, true_and] at this
  exact this
def layP (B : List Int) (a b : BitVec 64) (c s : Int) (v : BitVec 64) : List Int :=
  if c = 0 then layB B (offW a) (lbL v s.toNat) else layB (layB B (offW a) (lbL v c.toNat)) (offW b) (lbL (v >>> (8 * c.toNat)) (s - c).toNat)
def hasP (N : Nat) (a b : BitVec 64) (c s : Int) : Bool := if c = 0 then hasF N a s else hasF N a c && hasF N b (s - c)
def killLB (R : List Sl) (L : List (BitVec 64)) (but : Int) (k : Nat) : Bool := !decide ((k : Int) = but) && ((R.getD k z0).is && decide ((R.getD k z0).ln ∈ L))
def killL (R : List Sl) (L : List (BitVec 64)) (but : Int) : Nat → List Sl
  | 0 => R
  | k + 1 => if killLB R L but k = true then (killL R L but k).set k z0 else killL R L but k
theorem killL_len {R : List Sl} {L : List (BitVec 64)} {but : Int} : ∀ {k : Nat}, (killL R L but k).length = R.length
  | 0 => rfl
  | k + 1 => by
    have ih := killL_len (R := R) (L := L) (but := but) (k := k)
    simp only [killL]; split
    · simp [ih]
    · exact ih
end
end Go.Proofs.YtcbhelkafelofaaGreat
