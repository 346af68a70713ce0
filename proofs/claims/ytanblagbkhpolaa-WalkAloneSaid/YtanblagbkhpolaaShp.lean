/- The law ShardPairs -/
import Derived.Test.YtanblagbkhpolaaShd
import Derived.Test.YtanblagbkhpolaaAcc
namespace Go.Proofs.Ytanblagbkhpolaa
open Go.Am
set_option linter.unusedSimpArgs false
set_option linter.unusedVariables false
noncomputable section

/-! ## XRn5 -/
/-! ### reservations -/
theorem hasT_eq {R : List Sl} {k : Nat} {y : Sl} {l : BitVec 64} (hk : k < 8) (hy : R[k]? = some y) : hasT R k l = (y.is && decide (y.ln = l)) := by
  unfold hasT; rw [in8_k hk, at8_k hk hy]; rfl
theorem has_kill {R : List Sl} {l ln : BitVec 64} {b : Int} {k : Nat} (hR : R.length = 8) (hk : k < 8) : hasT (killN R l b 8) k ln = (hasT R k ln && !(!decide ((k : Int) = b) && decide (l = ln))) := by
  obtain ⟨y, hy⟩ := sl_some hR hk
  have g := killN_get (R := R) (l := l) (but := b) (j := k) (k := 8)
  have hB : killB R l b k = (!decide ((k : Int) = b) && (y.is && decide (y.ln = l))) := by unfold killB; rw [hasT_eq hk hy]
  rw [hasT_eq hk hy]
  by_cases h : killB R l b k = true
  · rw [if_pos ⟨hk, h, by omega⟩] at g
    rw [hasT_eq hk g]
    rw [hB] at h
    simp only [Bool.and_eq_true, decide_eq_true_eq] at h
    obtain ⟨h1, h2, h3⟩ := h
    rw [h1, h2, h3]
    simp [z0]
  · rw [if_neg (by simp [h]), hy] at g
    rw [hasT_eq hk g]
    rw [hB] at h
    by_cases e : l = ln
    · subst e
      cases h1 : decide ((k : Int) = b) <;> simp_all
    · rw [decide_eq_false e]; simp
theorem has_kiA {ln : BitVec 64} {b : Int} {k : Nat} (hk : k < 8) {l : List Pc} : ∀ {R : List Sl}, R.length = 8 → hasT (kiA R l b) k ln = (hasT R k ln && !(!decide ((k : Int) = b) && l.any fun p => decide (p.a / 64#64 = ln))) := by
  induction l with
  | nil => intro R _; simp [kiA]
  | cons p l ih =>
    intro R hR
    show hasT (kiA (killN R (p.a / 64#64) b 8) l b) k ln = _
    rw [ih (by rw [killN_len]; exact hR), has_kill hR hk, List.any_cons]
    generalize (l.any fun p => decide (p.a / 64#64 = ln)) = u
    generalize decide (p.a / 64#64 = ln) = v
    cases hasT R k ln <;> cases decide ((k : Int) = b) <;> cases u <;> cases v <;> rfl
theorem has_setT {R : List Sl} {ln : BitVec 64} {h k : Nat} {y : Sl} (hR : R.length = 8) (hh : h < 8) (hk : k < 8) : hasT (setT R h y) k ln = if h = k then (y.is && decide (y.ln = ln)) else hasT R k ln := by
  have e : setT R h y = R.set h y := by unfold setT; rw [if_pos (in8_k hh)]; rfl
  rw [e]
  obtain ⟨x, hx⟩ := sl_some hR hk
  by_cases c : h = k
  · subst c
    rw [if_pos rfl]
    exact hasT_eq hk (by rw [List.getElem?_set, if_pos rfl, if_pos (by omega)])
  · rw [if_neg c, hasT_eq hk hx]
    exact hasT_eq hk (by rw [List.getElem?_set, if_neg c]; exact hx)
/-! ### what was asked -/
structure Hs where
  h : Int
  q : Ak
  g : Bool
def tchB (q : Ak) (ln : BitVec 64) : Bool := q.l.any fun p => decide (p.a / 64#64 = ln)
def stepC (v : Bool) (x : Hs) (h : Int) (ln : BitVec 64) : Bool :=
  if x.h = h then (if x.q.k = 6 then false else if x.q.k = 5 then decide (x.q.a / 64#64 = ln) else v) else if (wrB x.q.k x.g && tchB x.q ln) = true then false else v
def cntB (P : List Hs) (h : Int) (ln : BitVec 64) : Bool := P.foldl (fun v x => stepC v x h ln) false
theorem cntB_app {P : List Hs} {x : Hs} {h : Int} {ln : BitVec 64} : cntB (P ++ [x]) h ln = stepC (cntB P h ln) x h ln := by unfold cntB; rw [List.foldl_append]; rfl
theorem dOk_h {z : ShS} {h : Int} {q : Ak} (e : dOk z h q = true) (hz : z.h ≤ 8) : ∃ k : Nat, h = k ∧ k < 8 := by
  unfold dOk at e
  simp only [Bool.and_eq_true, decide_eq_true_eq] at e
  exact ⟨h.toNat, by omega, by omega⟩
theorem inv_step {z : ShS} {P : List Hs} {h : Int} {q : Ak} (hz : z.h ≤ 8) (hR : z.R.length = 8) (hI : ∀ (j : Nat) ln, j < 8 → hasT z.R j ln = cntB P j ln) (ok : dOk z h q = true) (j : Nat) (ln : BitVec 64) (hj : j < 8) :
    hasT (dR z h q) j ln = cntB (P ++ [⟨h, q, dG z h q⟩]) j ln := by
  obtain ⟨h, rfl, hh⟩ := dOk_h ok hz
  rw [cntB_app, ← hI j ln hj]
  have kc : ((h : Int) = (j : Int)) = (h = j) := propext (by omega)
  have kd : decide ((j : Int) = (h : Int)) = decide (h = j) := decide_eq_decide.2 (by omega)
  unfold stepC
  simp only [kc]
  have r1 : hasT (dR1 z h q) j ln = if h = j then hasT z.R j ln else if ((dWr z h q).isSome && tchB q ln) = true then false else hasT z.R j ln := by
    unfold dR1
    cases dWr z h q with
    | none => simp
    | some v =>
      simp only [Option.isSome_some, Bool.true_and]
      rw [has_kiA hj hR, kd]
      unfold tchB
      by_cases c : h = j
      · rw [if_pos c, decide_eq_true c]; simp
      · rw [if_neg c, decide_eq_false c]
        cases (q.l.any fun p => decide (p.a / 64#64 = ln)) <;> simp
  unfold dR
  rw [if_pos ok]
  by_cases k5 : q.k = 5
  · rw [if_pos k5, has_setT hR hh hj]
    simp [k5, wrB]
  by_cases k6 : q.k = 6
  · rw [if_neg k5, if_pos k6, has_setT (dR1_len hR) hh hj, r1]
    have w : (dWr z h q).isSome = wrB q.k (dG z h q) := by
      simp only [dWr, dG, ok, if_true, k6, wrB]
      cases dSc z h q <;> simp
    rw [w]
    simp only [k6, if_true, z0, Bool.false_and]
    by_cases c : h = j <;> simp [c]
  · rw [if_neg k5, if_neg k6, r1]
    have w : (dWr z h q).isSome = wrB q.k (dG z h q) := by
      simp only [dWr, dG, ok, if_true, k6, if_false, wrB]
      by_cases k3 : q.k = 3
      · simp [k3]
      by_cases k4 : q.k = 4
      · simp [k4]
      by_cases k8 : q.k = 8
      · simp only [k8]
        by_cases c : dV z q = q.o <;> simp [c]
      · simp [k3, k4, k8]
    rw [w]
    simp only [k5, k6, if_false]
/-! ### what an Amo lays -/
def ldQ (q : Ak) : Ak := ⟨2, q.a, 0#64, 0, q.s, 0, 0#64, 0#64, false⟩
theorem sz_wide {op : Int} (h : isAB op = true) : sizeI op * 8 = sizeA op := by
  rw [isA_eq] at h
  obtain ⟨k, rfl⟩ := Int.eq_ofNat_of_zero_le (show 0 ≤ op by omega)
  have : ∀ k : Nat, k < 99 → classI k = 7 → sizeI k * 8 = sizeA k := by decide +kernel
  exact this k (by omega) (by rw [class_7]; omega)
theorem ite_low {p : Prop} [Decidable p] {a b : BitVec 64} {s : Int} (ha : lowU a s = a) (hb : lowU b s = b) : lowU (if p then a else b) s = if p then a else b := by split <;> assumption
theorem low_amo {op : Int} {m x : BitVec 64} (h : isAB op = true) : lowU (amoU op m x) (sizeA op) = amoU op m x := by
  unfold amoU
  rw [if_pos h]
  generalize wideN op = c
  generalize sizeA op = s
  unfold amoV
  repeat' (first | with_reducible exact low_low _ _ | with_reducible exact low_xor _ _ _ | with_reducible exact low_and _ _ _ | with_reducible exact low_or _ _ _ | with_reducible apply ite_low)
theorem amo_form {a : BitVec 64} {c s op : Int} (h : formB 4 a c s op = true) : isAB op = true ∧ s = sizeI op ∧ (s = 4 ∨ s = 8) ∧ c = 0 ∧ s ≤ (left a : Int) := by
  unfold formB at h
  rw [if_neg (by decide)] at h
  simp only [Bool.and_eq_true, decide_eq_true_eq] at h
  obtain ⟨h1, h2, h3, h4⟩ := h
  have hb : isAB op = true := by
    cases e : isAB op
    · exact (h1 (by simp [szA, e])).elim
    · rfl
  have hz : szA 4 op = sizeI op := by simp [szA, hb]
  rw [hz] at h1 h2 h4
  have hw := sz_wide hb
  have hs : s = 4 ∨ s = 8 := by rcases size_or op with e | e <;> rw [e] at hw <;> omega
  refine ⟨hb, h2, hs, h3, ?_⟩
  rw [← h2] at h4
  have h5 := congrArg BitVec.toNat h4
  rw [BitVec.toNat_umod] at h5
  have e0 : (0#64).toNat = 0 := rfl
  unfold left
  rcases hs with rfl | rfl
  · have e1 : (BitVec.ofInt 64 4).toNat = 4 := rfl
    rw [e1, e0] at h5
    omega
  · have e1 : (BitVec.ofInt 64 8).toNat = 8 := rfl
    rw [e1, e0] at h5
    omega
theorem acc_one {a b : BitVec 64} {s : Int} (h1 : 1 ≤ s) (h8 : s ≤ 8) (h : s ≤ (left a : Int)) : accP a b 0 s = [⟨a, s, 0⟩] := by
  have : smB 0 s = true := by simp [smB]; omega
  unfold accP
  rw [if_pos this, if_pos rfl]
  unfold pcP
  rw [if_pos h]
/-- what is laid at one place is read there -/
theorem get_one {N : Nat} {M : Nat × MapE} (hN : N ≤ 4096) (hw : wfE N M) {a b v : BitVec 64} {s : Int} (h8 : s ≤ 8) (hb : hasB N a s = true) : getA (stA M [⟨a, s, 0⟩] v).2 (byteU a b 0) s = lowU v (8 * s) := by
  have hb' := hb
  rw [hasB_iff] at hb'
  obtain ⟨n, rfl⟩ := Int.eq_ofNat_of_zero_le (show 0 ≤ s by omega)
  refine BitVec.eq_of_getLsbD_eq fun i hi => ?_
  unfold getA lowU
  rw [ofG_get hi, ofG_get hi]
  by_cases hl : (i : Int) < 8 * (n : Int)
  · rw [decide_eq_true hl, Bool.true_and, Bool.true_and]
    have e1 : byteU a b 0 ((i / 8 : Nat) : Int) = a + BitVec.ofInt 64 ((i / 8 : Nat) : Int) := by unfold byteU; rw [if_neg (by omega)]
    rw [e1, off_add hN hb (by omega) (by omega), Int.toNat_natCast]
    show (memB (stM M (offN a) (n : Int).toNat (partU v n 0)).2 (offN a + i / 8)).getLsbD (i % 8) = _
    rw [Int.toNat_natCast, memB_st hw (by omega) (by omega) (by omega), if_pos (by omega), show offN a + i / 8 - offN a = i / 8 by omega]
    rw [BitVec.getLsbD_setWidth, BitVec.getLsbD_ushiftRight, show 8 * (i / 8) + i % 8 = i by omega, decide_eq_true (show i % 8 < 8 by omega), Bool.true_and]
    have hr : rightB (n : Int) 0 = true := by rw [right_iff]; omega
    unfold partU
    rw [if_pos hr]
    unfold cutU
    rw [ofG_get hi, decide_eq_true hl, Bool.true_and, Int.zero_add, bitB_n]
  · rw [decide_eq_false hl]; rfl
theorem amo_was {z : ShS} {h : Int} {q : Ak} (ok : dOk z h q = true) (k4 : q.k = 4) : ∀ z' : ShS, z'.ram.n = z.ram.n → z'.h = z.h → dOk z' h (ldQ q) = true ∧ dD z' h (ldQ q) = getA z'.ram.M.2 (byteU q.a q.b 0) q.s := by
  intro z' e1 e2
  have ok' := ok
  unfold dOk at ok'
  rw [Bool.and_eq_true] at ok'
  obtain ⟨h1, h2⟩ := ok'
  unfold mayB at h1
  rw [Bool.and_eq_true, k4] at h1
  obtain ⟨h1, h3⟩ := h1
  obtain ⟨f1, f2, f3, f4, f5⟩ := amo_form h1
  rw [f4, acc_one (by omega) (by omega) f5] at h3
  have p2 : p2B q.s = true := by rcases f3 with e | e <;> rw [e] <;> decide
  have sm : smB 0 q.s = true := by simp [smB]; omega
  have o2 : dOk z' h (ldQ q) = true := by
    unfold dOk mayB ldQ
    rw [acc_one (by omega) (by omega) f5, e1, e2, h3, h2]
    simp only [formB, sm, p2]; rfl
  refine ⟨o2, ?_⟩
  unfold dD
  have l2 : (ldQ q).k = 2 := rfl
  rw [if_pos o2, l2, if_neg (show ¬ (2 : Int) = 3 by decide), if_neg (show ¬ (2 : Int) = 6 by decide)]
  unfold dV ldQ
  simp only
  unfold getA
  refine ofG_congr fun i hi => ?_
  unfold byteU
  rw [if_neg (by omega), if_neg (by omega)]
theorem amo_now {z : ShS} {h : Int} {q : Ak} (hN : z.ram.n ≤ 4096) (hw : wfE z.ram.n z.ram.M) (ok : dOk z h q = true) (k4 : q.k = 4) : dD z h q = getA z.ram.M.2 (byteU q.a q.b 0) q.s ∧ getA (dM z h q).2 (byteU q.a q.b 0) q.s = amoU q.op (dD z h q) q.d := by
  have hm := dOk_may ok
  have h1 := hm
  unfold mayB at h1
  rw [Bool.and_eq_true, k4] at h1
  obtain ⟨h1, h3⟩ := h1
  obtain ⟨f1, f2, f3, f4, f5⟩ := amo_form h1
  rw [f4, acc_one (by omega) (by omega) f5] at h3
  have eV : dD z h q = getA z.ram.M.2 (byteU q.a q.b 0) q.s := by
    unfold dD
    rw [if_pos ok, if_neg (by omega), if_neg (by omega)]
    unfold dV
    rw [f4]
  refine ⟨eV, ?_⟩
  have eW : dWr z h q = some (amoU q.op (dV z q) q.d) := by
    unfold dWr
    rw [if_pos ok, if_neg (by omega), if_pos k4]
  have eM : dM z h q = stA z.ram.M [⟨q.a, q.s, 0⟩] (amoU q.op (dV z q) q.d) := by
    unfold dM
    rw [eW]
    show stA z.ram.M q.l _ = _
    unfold Ak.l
    rw [f4, acc_one (by omega) (by omega) f5]
  have hb : hasB z.ram.n q.a q.s = true := by simpa using h3
  rw [eM, get_one hN hw (by omega) hb]
  have e8 : 8 * q.s = sizeA q.op := by rw [← sz_wide f1, f2]; omega
  have e9 : dV z q = dD z h q := by
    rw [eV]; unfold dV; rw [f4]
  rw [e8, low_amo f1, e9]
theorem ld_same {z : ShS} {h : Int} {q : Ak} : dM z h (ldQ q) = z.ram.M ∧ dR z h (ldQ q) = z.R := by
  have w : dWr z h (ldQ q) = none := by
    unfold dWr ldQ
    split <;> rfl
  refine ⟨by unfold dM; rw [w], ?_⟩
  unfold dR dR1
  rw [w]
  unfold ldQ
  split <;> rfl
theorem no_same {z : ShS} {h : Int} {q : Ak} (ok : dOk z h q = false) : dM z h q = z.ram.M ∧ dR z h q = z.R := by
  have w : dWr z h q = none := by
    unfold dWr
    rw [if_neg (by simp [ok])]
  refine ⟨by unfold dM; rw [w], ?_⟩
  unfold dR
  rw [if_neg (by simp [ok])]
/-! ### Do, where memory stands -/
theorem sh_do {H : AH} {x : Sc} {s : ShS} (hS : ShIs H x s) {M : Nat × MapE} {R : List Sl} (hM : wfE s.ram.n M) (hR : R.length = 8) (X : AH) {h k : Int} {a b : BitVec 64} {c z op : Int} {d o : BitVec 64} {lv : Bool} {r : List Sc} (hr : askR r) :
    s_sdo14 [.c x, .c (.i h), .g (.i k :: .u a :: .u b :: .i c :: .i z :: .i op :: .u d :: .u o :: .b lv :: r)] (shSet H s M R ++ X) = some (.t [.g (anC (dD (s.to M R) h ⟨k, a, b, c, z, op, d, o, lv⟩) (dG (s.to M R) h ⟨k, a, b, c, z, op, d, o, lv⟩)), .c (.b (dOk (s.to M R) h ⟨k, a, b, c, z, op, d, o, lv⟩))],
      shSet H s (dM (s.to M R) h ⟨k, a, b, c, z, op, d, o, lv⟩) (dR (s.to M R) h ⟨k, a, b, c, z, op, d, o, lv⟩) ++ X) := by
  have g := hS.set hM hR
  rw [s_sdo14_eq (g.app X) hr, shSet_app g, shSet_set hS]

/-! ## XRn6 -/
/-! ### what must be -/
def Bs : BitVec 64 := 2147483648#64
def lvZ : ShS := nwS 0 2 2 2 1
def lvLr : Ak := ⟨5, 2147483648#64, 0#64, 0, 4, 67, 0#64, 0#64, false⟩
def lvSc : Ak := ⟨6, 2147483648#64, 0#64, 0, 4, 68, 5#64, 0#64, true⟩
def lvSt : Ak := ⟨3, 2147483708#64, 0#64, 0, 1, 0, 0#64, 0#64, false⟩
theorem lv_a4 : accP 2147483648#64 0#64 0 4 = [⟨2147483648#64, 4, 0⟩] := acc_one (by decide) (by decide) (by decide)
theorem lv_a1 : accP 2147483708#64 0#64 0 1 = [⟨2147483708#64, 1, 0⟩] := acc_one (by decide) (by decide) (by decide)
theorem lv_h4 : hasB 2 2147483648#64 4 = true := by rw [hasB_iff, offN_eq]; exact ⟨by decide, by decide, by decide, by decide⟩
theorem lv_h1 : hasB 2 2147483708#64 1 = true := by rw [hasB_iff, offN_eq]; exact ⟨by decide, by decide, by decide, by decide⟩
theorem lv_okLr (M : Nat × MapE) (R : List Sl) : dOk (lvZ.to M R) 0 lvLr = true := by
  show (mayB 2 5 2147483648#64 0#64 0 4 67 && (decide ((0 : Int) ≤ 0) && decide ((0 : Int) < 2))) = true
  unfold mayB
  rw [lv_a4, List.all_cons, lv_h4, show formB 5 2147483648#64 0 4 67 = true by decide]; rfl
theorem lv_okSc (M : Nat × MapE) (R : List Sl) : dOk (lvZ.to M R) 0 lvSc = true := by
  show (mayB 2 6 2147483648#64 0#64 0 4 68 && (decide ((0 : Int) ≤ 0) && decide ((0 : Int) < 2))) = true
  unfold mayB
  rw [lv_a4, List.all_cons, lv_h4, show formB 6 2147483648#64 0 4 68 = true by decide]; rfl
theorem lv_okSt (M : Nat × MapE) (R : List Sl) : dOk (lvZ.to M R) 1 lvSt = true := by
  show (mayB 2 3 2147483708#64 0#64 0 1 0 && (decide ((0 : Int) ≤ 1) && decide ((1 : Int) < 2))) = true
  unfold mayB
  rw [lv_a1, List.all_cons, lv_h1, show formB 3 2147483708#64 0 1 0 = true by decide]; rfl
theorem lv_rLr (M : Nat × MapE) (R : List Sl) : dR (lvZ.to M R) 0 lvLr = setT R 0 ⟨true, 33554432#64⟩ ∧ dG (lvZ.to M R) 0 lvLr = false := by
  have := lv_okLr M R
  refine ⟨?_, ?_⟩
  · unfold dR; rw [if_pos this, if_pos (show lvLr.k = 5 from rfl)]; rfl
  · unfold dG; rw [if_pos this, if_neg (show ¬ lvLr.k = 6 by decide), if_neg (show ¬ lvLr.k = 8 by decide)]
theorem lv_rSt (M : Nat × MapE) (R : List Sl) : dR (lvZ.to M R) 1 lvSt = killN R 33554432#64 1 8 := by
  have := lv_okSt M R
  have w : dWr (lvZ.to M R) 1 lvSt = some 0#64 := by unfold dWr; rw [if_pos this, if_pos (show lvSt.k = 3 from rfl)]; rfl
  unfold dR
  rw [if_pos this, if_neg (show ¬ lvSt.k = 5 by decide), if_neg (show ¬ lvSt.k = 6 by decide)]
  unfold dR1
  rw [w]
  show kiA R (accP 2147483708#64 0#64 0 1) 1 = _
  rw [lv_a1]; rfl
theorem lv_gSc (M : Nat × MapE) (R : List Sl) : dG (lvZ.to M R) 0 lvSc = hasT R 0 33554432#64 := by
  unfold dG; rw [if_pos (lv_okSc M R), if_pos (show lvSc.k = 6 from rfl)]; rfl
theorem lv_rSc (M : Nat × MapE) (R : List Sl) : dR (lvZ.to M R) 0 lvSc = setT (if hasT R 0 33554432#64 = true then killN R 33554432#64 0 8 else R) 0 z0 := by
  have := lv_okSc M R
  unfold dR
  rw [if_pos this, if_neg (show ¬ lvSc.k = 5 by decide), if_pos (show lvSc.k = 6 from rfl)]
  unfold dR1
  have s : dSc (lvZ.to M R) 0 lvSc = hasT R 0 33554432#64 := rfl
  have w : dWr (lvZ.to M R) 0 lvSc = if hasT R 0 33554432#64 = true then some 5#64 else none := by
    unfold dWr; rw [if_pos this, if_neg (show ¬ lvSc.k = 3 by decide), if_neg (show ¬ lvSc.k = 4 by decide), if_pos (show lvSc.k = 6 from rfl), s]; rfl
  rw [w]
  split
  · rename_i v hv
    split at hv
    · rename_i hh
      rw [if_pos hh]
      show setT (kiA R (accP 2147483648#64 0#64 0 4) 0) 0 z0 = _
      rw [lv_a4]; rfl
    · simp at hv
  · rename_i hv
    split at hv
    · simp at hv
    · rename_i hh; rw [if_neg hh]; rfl
def lvR0 : List Sl := List.replicate 8 z0
def lvR1 : List Sl := setT lvR0 0 ⟨true, 33554432#64⟩
def lvR2 : List Sl := killN lvR1 33554432#64 1 8
def lvR3 : List Sl := setT lvR2 0 z0
def lvR4 : List Sl := setT lvR3 0 ⟨true, 33554432#64⟩
def lvR5 : List Sl := setT (killN lvR4 33554432#64 0 8) 0 z0
theorem lv_1 : hasT lvR2 0 33554432#64 = false := by decide +kernel
theorem lv_2 : hasT lvR4 0 33554432#64 = true := by decide +kernel
theorem lv_3 : hasT lvR5 0 33554432#64 = false := by decide +kernel
/-- the heaps of the example, one behind the other -/
theorem lv_T : ∃ (T : Nat → AH) (D : Nat → BitVec 64), (∀ k, (T k).length = 4) ∧ s_snew [.g [.i 2, .i 2, .i 2, .i 1]] [] = some (.t [.c (.p 3 0 0), .c (.i 0)], T 0) ∧
    (∀ X r, askR r → s_sdo14 [.c (.p 3 0 0), .c (.i 0), .g (.i 5 :: .u 2147483648#64 :: .u 0#64 :: .i 0 :: .i 4 :: .i 67 :: .u 0#64 :: .u 0#64 :: .b false :: r)] (T 0 ++ X) = some (.t [.g (anC (D 0) false), .c (.b true)], T 1 ++ X)) ∧
    (∀ X r, askR r → s_sdo14 [.c (.p 3 0 0), .c (.i 1), .g (.i 3 :: .u 2147483708#64 :: .u 0#64 :: .i 0 :: .i 1 :: .i 0 :: .u 0#64 :: .u 0#64 :: .b false :: r)] (T 1 ++ X) = some (.t [.g (anC (D 1) false), .c (.b true)], T 2 ++ X)) ∧
    (∀ X r, askR r → s_sdo14 [.c (.p 3 0 0), .c (.i 0), .g (.i 6 :: .u 2147483648#64 :: .u 0#64 :: .i 0 :: .i 4 :: .i 68 :: .u 5#64 :: .u 0#64 :: .b true :: r)] (T 2 ++ X) = some (.t [.g (anC (D 2) false), .c (.b true)], T 3 ++ X)) ∧
    (∀ X r, askR r → s_sdo14 [.c (.p 3 0 0), .c (.i 0), .g (.i 5 :: .u 2147483648#64 :: .u 0#64 :: .i 0 :: .i 4 :: .i 67 :: .u 0#64 :: .u 0#64 :: .b false :: r)] (T 3 ++ X) = some (.t [.g (anC (D 3) false), .c (.b true)], T 4 ++ X)) ∧
    (∀ X r, askR r → s_sdo14 [.c (.p 3 0 0), .c (.i 0), .g (.i 6 :: .u 2147483648#64 :: .u 0#64 :: .i 0 :: .i 4 :: .i 68 :: .u 5#64 :: .u 0#64 :: .b true :: r)] (T 4 ++ X) = some (.t [.g (anC (D 4) true), .c (.b true)], T 5 ++ X)) ∧
    (∀ X r, askR r → s_sdo14 [.c (.p 3 0 0), .c (.i 0), .g (.i 6 :: .u 2147483648#64 :: .u 0#64 :: .i 0 :: .i 4 :: .i 68 :: .u 5#64 :: .u 0#64 :: .b true :: r)] (T 5 ++ X) = some (.t [.g (anC (D 5) false), .c (.b true)], T 6 ++ X)) := by
  have hS : ShIs (nwH 0 2 2 2 1) (.p 3 0 0) lvZ := nwIs (H := []) (h := 2) (t := 2) (n := 2) (b := 1) (by decide)
  have go : ∀ M R h q, wfE 2 M → R.length = 8 → ∀ X r, askR r → s_sdo14 [.c (.p 3 0 0), .c (.i h), .g (.i q.k :: .u q.a :: .u q.b :: .i q.c :: .i q.s :: .i q.op :: .u q.d :: .u q.o :: .b q.lv :: r)] (shSet (nwH 0 2 2 2 1) lvZ M R ++ X) =
      some (.t [.g (anC (dD (lvZ.to M R) h q) (dG (lvZ.to M R) h q)), .c (.b (dOk (lvZ.to M R) h q))], shSet (nwH 0 2 2 2 1) lvZ (dM (lvZ.to M R) h q) (dR (lvZ.to M R) h q) ++ X) := fun M R h q hM hR X r hr => sh_do hS hM hR X hr
  have w : ∀ M R h q, wfE 2 M → wfE 2 (dM (lvZ.to M R) h q) := fun M R h q hM => dM_wf (z := lvZ.to M R) hM
  obtain ⟨M0, hM0⟩ : ∃ M0, M0 = ((0, []) : Nat × MapE) := ⟨_, rfl⟩
  have w0 : wfE 2 M0 := by rw [hM0]; exact ⟨List.nodup_nil, fun e he => by simp at he⟩
  have w1 := w M0 lvR0 0 lvLr w0
  have g0 := go M0 lvR0 0 lvLr w0 rfl
  rw [(lv_rLr _ _).1, (lv_rLr _ _).2, lv_okLr] at g0
  generalize dM (lvZ.to M0 lvR0) 0 lvLr = M1 at w1 g0
  have w2 := w M1 lvR1 1 lvSt w1
  have g1 := go M1 lvR1 1 lvSt w1 rfl
  have e1 : dG (lvZ.to M1 lvR1) 1 lvSt = false := by unfold dG; rw [if_pos (lv_okSt _ _), if_neg (show ¬ lvSt.k = 6 by decide), if_neg (show ¬ lvSt.k = 8 by decide)]
  rw [lv_rSt, e1, lv_okSt] at g1
  generalize dM (lvZ.to M1 lvR1) 1 lvSt = M2 at w2 g1
  have w3 := w M2 lvR2 0 lvSc w2
  have g2 := go M2 lvR2 0 lvSc w2 (by show (killN lvR1 _ _ _).length = 8; rw [killN_len]; rfl)
  rw [lv_rSc, lv_gSc, lv_okSc, lv_1, if_neg (by decide)] at g2
  generalize dM (lvZ.to M2 lvR2) 0 lvSc = M3 at w3 g2
  have l3 : lvR3.length = 8 := by show (setT lvR2 _ _).length = 8; rw [setT_l]; show (killN lvR1 _ _ _).length = 8; rw [killN_len]; rfl
  have w4 := w M3 lvR3 0 lvLr w3
  have g3 := go M3 lvR3 0 lvLr w3 l3
  rw [(lv_rLr _ _).1, (lv_rLr _ _).2, lv_okLr] at g3
  generalize dM (lvZ.to M3 lvR3) 0 lvLr = M4 at w4 g3
  have l4 : lvR4.length = 8 := by show (setT lvR3 _ _).length = 8; rw [setT_l]; exact l3
  have w5 := w M4 lvR4 0 lvSc w4
  have g4 := go M4 lvR4 0 lvSc w4 l4
  rw [lv_rSc, lv_gSc, lv_okSc, lv_2, if_pos rfl] at g4
  generalize dM (lvZ.to M4 lvR4) 0 lvSc = M5 at w5 g4
  have l5 : lvR5.length = 8 := by show (setT (killN lvR4 _ _ _) _ _).length = 8; rw [setT_l, killN_len]; exact l4
  have g5 := go M5 lvR5 0 lvSc w5 l5
  rw [lv_rSc, lv_gSc, lv_okSc, lv_3, if_neg (by decide)] at g5
  refine ⟨fun k => match k with
    | 0 => shSet (nwH 0 2 2 2 1) lvZ M0 lvR0
    | 1 => shSet (nwH 0 2 2 2 1) lvZ M1 lvR1
    | 2 => shSet (nwH 0 2 2 2 1) lvZ M2 lvR2
    | 3 => shSet (nwH 0 2 2 2 1) lvZ M3 lvR3
    | 4 => shSet (nwH 0 2 2 2 1) lvZ M4 lvR4
    | 5 => shSet (nwH 0 2 2 2 1) lvZ M5 lvR5
    | _ => shSet (nwH 0 2 2 2 1) lvZ (dM (lvZ.to M5 lvR5) 0 lvSc) (setT lvR5 0 z0), fun k => match k with
    | 0 => dD (lvZ.to M0 lvR0) 0 lvLr
    | 1 => dD (lvZ.to M1 lvR1) 1 lvSt
    | 2 => dD (lvZ.to M2 lvR2) 0 lvSc
    | 3 => dD (lvZ.to M3 lvR3) 0 lvLr
    | 4 => dD (lvZ.to M4 lvR4) 0 lvSc
    | _ => dD (lvZ.to M5 lvR5) 0 lvSc, ?_, ?_, g0, g1, g2, g3, g4, g5⟩
  · intro k
    simp only
    split <;> rw [shSet_len] <;> rfl
  · have : shSet (nwH 0 2 2 2 1) lvZ M0 lvR0 = nwH 0 2 2 2 1 := by rw [hM0]; exact hS.self
    show _ = some (_, shSet (nwH 0 2 2 2 1) lvZ M0 lvR0)
    rw [this]; rfl
theorem zA10 : askR [.i 0, .b false, .b false, .b false, .u 0#64, .i 0, .i 0, .u 0#64, .i 0, .u 0#64] := ⟨rfl, rfl, rfl⟩
/-! ### which lines an ask touches -/
theorem tch_iff {B : Int → BitVec 64} {ln : BitVec 64} {l : List Pc} : ∀ {m : Int}, gd2 B l m → ((l.any fun p => decide (p.a / 64#64 = ln)) = true ↔ ∃ i : Int, m ≤ i ∧ i < m + tot l ∧ B i / 64#64 = ln) := by
  induction l with
  | nil => intro m _; simp only [List.any_nil, tot]; constructor
           · intro h; simp at h
           · rintro ⟨i, h1, h2, _⟩; omega
  | cons p l ih =>
    intro m h
    obtain ⟨a1, a2, a3, a4, a6⟩ := h
    have ih := ih a6
    have t0 := tot_drop a6 0
    rw [List.drop_zero] at t0
    rw [List.any_cons, Bool.or_eq_true, ih, decide_eq_true_eq]
    simp only [tot]
    constructor
    · rintro (h | ⟨i, h1, h2, h3⟩)
      · refine ⟨m, by omega, by omega, ?_⟩
        have := a4 0 (by omega) (by omega)
        rw [Int.add_zero] at this
        rw [this.1, this.2, h]
      · exact ⟨i, by omega, by omega, h3⟩
    · rintro ⟨i, h1, h2, h3⟩
      by_cases c : i < m + p.n
      · left
        have := a4 (i - m) (by omega) (by omega)
        rw [show m + (i - m) = i by omega] at this
        rw [← this.2, ← this.1, h3]
      · exact .inr ⟨i, by omega, by omega, h3⟩
theorem tch_bytes {q : Ak} {ln : BitVec 64} (h : smB q.c q.s = true) : tchB q ln = true ↔ ∃ i : Int, 0 ≤ i ∧ i < q.s ∧ byteU q.a q.b q.c i / 64#64 = ln := by
  have := tch_iff (ln := ln) (gd2_acc (a := q.a) (b := q.b) h)
  rw [(good_acc (a := q.a) (b := q.b) h).2.1, Int.zero_add] at this
  exact this
def pcond14 (c s : Int) (r : List Sc) : Prop := (r.length = 10 ∧ r.all Sc.pf = true ∧ r.all Sc.one = true) ∧ smB c s = true
instance decPc14 (c s : Int) (r : List Sc) : Decidable (pcond14 c s r) := Classical.propDecidable _

/-! ## XRn7 -/
/-! ### rows -/
def ksDe : List K := .n .i64 :: ksAsk
def isDe (l : List Sc) : Prop := L2 FitK l ksDe
instance decIsDe (l : List Sc) : Decidable (isDe l) := Classical.propDecidable _
abbrev De := {l : List Sc // isDe l}
def encD (e : De) : List Sc := e.1
def dcD (cs : List Sc) : Option De := if h : isDe cs then some ⟨cs, h⟩ else none
theorem dcD_e (e : De) : dcD (encD e) = some e := by unfold dcD encD; rw [dif_pos e.2]
theorem dcD_d (cs : List Sc) (e : De) (h : dcD cs = some e) : cs = encD e := by
  unfold dcD at h
  split at h
  · simp only [Option.some.injEq] at h; subst h; rfl
  · simp at h
theorem encD_l (e : De) : (encD e).length = 20 := L2.length e.2
def dH (e : De) : Int := gi e.1 0
def dQ (e : De) : Ak := ⟨gi e.1 1, gu e.1 2, gu e.1 3, gi e.1 4, gi e.1 5, gi e.1 6, gu e.1 7, gu e.1 8, gb e.1 9⟩
theorem de_of (e : De) : ∃ (h k : Int) (a b : BitVec 64) (c s op : Int) (d o : BitVec 64) (lv : Bool) (r : List Sc), encD e = .i h :: .i k :: .u a :: .u b :: .i c :: .i s :: .i op :: .u d :: .u o :: .b lv :: r ∧ askR r ∧ dH e = h ∧ dQ e = ⟨k, a, b, c, s, op, d, o, lv⟩ ∧ inR h ∧ inR s := by
  obtain ⟨l, hl⟩ := e
  obtain ⟨x, r1, rfl, k1, h2⟩ := fit_cons hl
  obtain ⟨h, rfl, b0⟩ := fk_i k1
  obtain ⟨k, a, b, c, s, op, d, o, lv, r, rfl, hr, b1, b2, b3, b4⟩ := ask9 h2
  exact ⟨h, k, a, b, c, s, op, d, o, lv, r, rfl, hr, rfl, rfl, ⟨b0.1, b0.2⟩, ⟨b3.1, b3.2⟩⟩
abbrev An := BitVec 64 × Bool
def encA (x : An) : List Sc := anC x.1 x.2
def dcA : List Sc → Option An
  | .u d :: .b g :: r => open Classical in if r = zMl then some (d, g) else none
  | _ => none
theorem dcA_e (x : An) : dcA (encA x) = some x := by
  simp only [encA, anC, dcA, if_true]
theorem dcA_d (cs : List Sc) (x : An) (h : dcA cs = some x) : cs = encA x := by
  unfold dcA at h
  split at h
  · split at h
    · rename_i e
      simp only [Option.some.injEq] at h; subst h; rw [e]; rfl
    · simp at h
  · simp at h
theorem encA_l (x : An) : (encA x).length = 42 := by show (zMl.length + 1 + 1) = 42; rw [zMl_len]
theorem encD_bel {L : List De} {n : Nat} : (L.flatMap encD).all (Sc.bel n) = true := by rw [List.all_flatMap]; exact List.all_eq_true.2 fun e _ => (fit_all e.2).2.2 n
theorem encA_bel {L : List An} {n : Nat} : (L.flatMap encA).all (Sc.bel n) = true := by rw [List.all_flatMap]; exact List.all_eq_true.2 fun e _ => anC_bel
theorem isQ_of {k : Int} {a b : BitVec 64} {c s op : Int} {d o : BitVec 64} {lv : Bool} {r : List Sc} (h : askR r) : isQ (.i k :: .u a :: .u b :: .i c :: .i s :: .i op :: .u d :: .u o :: .b lv :: r) :=
  ⟨by simp only [List.length_cons, h.1], by simp only [List.all_cons, Sc.pf, h.2.1]; rfl, rfl⟩
theorem isN_of {d : BitVec 64} {g : Bool} : isN (.u d :: .b g :: zMl) := ⟨by simp only [List.length_cons, zMl_len], rfl, rfl⟩
/-- what was asked, with what was answered -/
def hsL (L : List De) (T : List An) : List Hs := List.zipWith (fun e t => ⟨dH e, dQ e, t.2⟩) L T
theorem hsL_get {L : List De} {T : List An} {j : Nat} {e : De} {t : An} (h1 : L[j]? = some e) (h2 : T[j]? = some t) : (hsL L T)[j]? = some ⟨dH e, dQ e, t.2⟩ := by
  unfold hsL
  rw [List.getElem?_zipWith, h1, h2]
theorem row_drop {α : Type} {f : α → List Sc} {w : Nat} (h : ∀ x, (f x).length = w) {L : List α} {k : Nat} {x : α} (hx : L[k]? = some x) (i : Nat) (hi : i ≤ w) : (L.flatMap f).drop (k * w + i) = (f x).drop i ++ (L.drop (k + 1)).flatMap f := by
  rw [← List.drop_drop, fm_drop h]
  have hk : k < L.length := by
    rcases Nat.lt_or_ge k L.length with h | h
    · exact h
    · rw [List.getElem?_eq_none h] at hx; simp at hx
  rw [List.drop_eq_getElem_cons hk, List.flatMap_cons]
  rw [List.getElem?_eq_getElem hk] at hx
  simp only [Option.some.injEq] at hx
  rw [hx, List.drop_append_of_le_length (by rw [h]; exact hi)]
def okL (L : List De) (T : List An) : Prop := L.length = T.length ∧ L.length ≤ 1000 ∧ ∀ e ∈ L, smB (dQ e).c (dQ e).s = true
instance decOkL (L : List De) (T : List An) : Decidable (okL L T) := Classical.propDecidable _
def s_scounts (args : List AV) (H : AH) : Option AV :=
  match args with
  | [.c x, .c y, .c (.i h), .c (.u ln)] =>
    match slD 20 dcD H x, slD 42 dcA H y with
    | some L, some T => if okL L T then some (.c (.b (cntB (hsL L T) h ln))) else none
    | _, _ => none
  | _ => none
theorem s_scounts_eq {H : AH} {x y : Sc} {L : List De} {T : List An} {h : Int} {ln : BitVec 64} (h1 : slD 20 dcD H x = some L) (h2 : slD 42 dcA H y = some T) (h3 : okL L T) : s_scounts [.c x, .c y, .c (.i h), .c (.u ln)] H = some (.c (.b (cntB (hsL L T) h ln))) := by
  simp only [s_scounts, h1, h2, h3, if_true]

/-! ## XRn8 -/
theorem subH_of_hg {H K : AH} (hl : H.length ≤ K.length) (h : ∀ k, k < H.length → hg K k = hg H k) : subH H K := by
  induction H generalizing K with
  | nil => exact trivial
  | cons o r ih =>
    cases K with
    | nil => simp at hl
    | cons o' r' =>
      refine ⟨.inr ?_, ih (by simpa using hl) fun k hk => ?_⟩
      · have := h 0 (by simp); simpa [hg] using this.symm
      · have := h (k + 1) (by simpa using hk); simpa [hg] using this
theorem subH_trans' {H A X : AH} (h : subH H A) : subH H (A ++ X) := by
  induction H generalizing A with
  | nil => exact trivial
  | cons o r ih =>
    cases A with
    | nil => exact h.elim
    | cons o' r' => exact ⟨h.1, ih h.2⟩
theorem nvc14 {p : Prop} {full : Array Oper} {i j : Nat} {A B : AH} (h : nvw A B) (hl : loose full i j = true) : ¬ (loose full i j = true ∧ nvw A B) → p := fun k => absurd ⟨hl, h⟩ k
theorem sh_nvw {H : AH} {x : Sc} {s : ShS} (h : ShIs H x s) (M M' : Nat × MapE) (R R' : List Sl) (X : AH) : nvw (shSet H s M R ++ X) (shSet H s M' R' ++ X) := fun i h1 h2 => by
  have l1 : (shSet H s M R).length = H.length := shSet_len
  have l2 : (shSet H s M' R').length = H.length := shSet_len
  rcases Nat.lt_or_ge i H.length with c | c
  · rw [hg_lt' (by omega)] at h1 h2 ⊢
    rw [hg_lt' (by omega)]
    unfold shSet at h1 h2 ⊢
    by_cases c1 : s.id = i
    · subst c1
      rw [hg_set_same (by rw [List.length_set]; exact c)] at h2
      simp [AObj.owned] at h2
    · rw [hg_set_ne' c1] at h1 h2
      by_cases c2 : s.ram.mid = i
      · subst c2
        rw [hg_set_same c] at h2
        simp [AObj.owned, mapO] at h2
      · rw [hg_set_ne' c1, hg_set_ne' c1, hg_set_ne' c2, hg_set_ne' c2]
  · obtain ⟨j, rfl⟩ : ∃ j, i = H.length + j := ⟨i - H.length, by omega⟩
    rw [← l1, hg_len_add, l1, ← l2, hg_len_add]
structure Pst where
  M : Nat × MapE
  R : List Sl
  L : List De
  T : List An
def stp (z : ShS) (p : Pst) (e : De) : Pst :=
  if dOk (z.to p.M p.R) (dH e) (dQ e) = true then ⟨dM (z.to p.M p.R) (dH e) (dQ e), dR (z.to p.M p.R) (dH e) (dQ e), p.L ++ [e], p.T ++ [(dD (z.to p.M p.R) (dH e) (dQ e), dG (z.to p.M p.R) (dH e) (dQ e))]⟩ else p
def stN (z : ShS) (L : List De) (k : Nat) : Pst := (L.take k).foldl (stp z) ⟨z.ram.M, z.R, [], []⟩
theorem stN_step {z : ShS} {L : List De} {k : Nat} {e : De} (h : L[k]? = some e) : stN z L (k + 1) = stp z (stN z L k) e := by
  unfold stN
  rw [List.take_add_one, h, List.foldl_append]; rfl
structure Pin (z : ShS) (k : Nat) (p : Pst) : Prop where
  w : wfE z.ram.n p.M
  r : p.R.length = 8
  e : p.L.length = p.T.length
  k : p.L.length ≤ k
  s : ∀ e ∈ p.L, smB (dQ e).c (dQ e).s = true
  c : ∀ (j : Nat) (ln : BitVec 64), j < 8 → hasT p.R j ln = cntB (hsL p.L p.T) j ln
theorem hsL_app {L : List De} {T : List An} (h : L.length = T.length) (e : De) (t : An) : hsL (L ++ [e]) (T ++ [t]) = hsL L T ++ [⟨dH e, dQ e, t.2⟩] := by
  unfold hsL
  rw [List.zipWith_append h]; rfl
theorem Pin.step {z : ShS} {k : Nat} {p : Pst} (hz : z.h ≤ 8) (h : Pin z k p) (e : De) : Pin z (k + 1) (stp z p e) := by
  unfold stp
  split
  · rename_i ok
    refine ⟨dM_wf (z := z.to p.M p.R) h.w, dR_len (z := z.to p.M p.R) h.r, by simp only [List.length_append, h.e]; rfl, by have := h.k; simp only [List.length_append, List.length_cons, List.length_nil]; omega, ?_, ?_⟩
    · intro x hx
      rcases List.mem_append.1 hx with g | g
      · exact h.s x g
      · rw [List.mem_singleton] at g
        rw [g]
        exact (may_all (dOk_may ok)).1
    · intro j ln hj
      rw [hsL_app h.e]
      exact inv_step (z := z.to p.M p.R) hz h.r h.c ok j ln hj
  · exact ⟨h.w, h.r, h.e, by have := h.k; omega, h.s, h.c⟩
theorem stN_in {z : ShS} (hz : z.h ≤ 8) (hw : wfE z.ram.n z.ram.M) (hR : z.R = List.replicate 8 z0) {L : List De} : ∀ {k : Nat}, k ≤ L.length → Pin z k (stN z L k)
  | 0, _ => by
    refine ⟨hw, by show z.R.length = 8; rw [hR]; rfl, rfl, Nat.le_refl _, fun e he => by simp [stN] at he, fun j ln hj => ?_⟩
    show hasT z.R j ln = cntB (hsL [] []) j ln
    rw [hR, hasT_eq hj (y := z0) (by rw [List.getElem?_replicate, if_pos hj])]
    rfl
  | k + 1, h => by
    rw [stN_step (List.getElem?_eq_getElem (show k < L.length by omega))]
    exact (stN_in hz hw hR (by omega)).step hz _
def s_spairs (args : List AV) (H : AH) : Option AV :=
  match args with
  | [.c x] => match slD 20 dcD H x with
    | some L => if L.length ≤ 9223372036854775807 then some (.c (.b true)) else none
    | none => none
  | _ => none
set_option maxHeartbeats 4000000 in
theorem sig_spairs (avs : List AV) (H : AH) (h : SigA [.sl [.n .i64, .n .i64, .n .u64, .n .u64, .n .i64, .n .i64, .n .i64, .n .u64, .n .u64, .q, .n .i64, .q, .q, .q, .n .u64, .n .i64, .n .i64, .n .u64, .n .i64, .n .u64]] avs H) : s_spairs avs H = some (.c (.b true)) := by
  obtain ⟨x, r, rfl, h2, L, hL, -, hl⟩ := sig_row (f := encD) (w := 20) (dc := dcD) (p := fun _ => True) (fun cs hcs => ⟨⟨cs, hcs⟩, rfl, trivial⟩) encD_l dcD_e h
  obtain rfl := sig_nil h2
  simp only [s_spairs, hL, hl, if_true]
end
end Go.Proofs.Ytanblagbkhpolaa
