/- A walk in a memory that nobody else changes: plain. -/
import Derived.Test.YtanblagbkhpolaaShp
import Derived.Test.YtanblagbkhpolaaWk2
import Derived.Test.YtanblagbkhpolaaP3
namespace Go.Proofs.Ytanblagbkhpolaa
open Go.Am
set_option linter.unusedSimpArgs false
set_option linter.unusedVariables false
noncomputable section

/-! ### numbers of eight bytes -/
def rd8 (M : Nat × MapE) (a : BitVec 64) : BitVec 64 := getA M.2 (byteU a 0#64 0) 8
def okA (n : Nat) (a : BitVec 64) : Prop := hasB n a 8 = true ∧ a % 8#64 = 0#64
theorem left_8 {a : BitVec 64} (h : a % 8#64 = 0#64) : (8 : Int) ≤ (left a : Int) := by
  have h5 := congrArg BitVec.toNat h
  rw [BitVec.toNat_umod] at h5
  have e0 : (0#64).toNat = 0 := rfl
  have e1 : (8#64).toNat = 8 := rfl
  rw [e0, e1] at h5
  unfold left
  omega
theorem acc_8 {a : BitVec 64} (h : a % 8#64 = 0#64) : accP a 0#64 0 8 = [⟨a, 8, 0⟩] := acc_one (by decide) (by decide) (left_8 h)
theorem rd_same {N : Nat} {M : Nat × MapE} (hN : N ≤ 4096) (hw : wfE N M) {a v : BitVec 64} (ha : okA N a) : rd8 (stA M [⟨a, 8, 0⟩] v) a = v := by
  unfold rd8
  rw [get_one hN hw (by decide) ha.1]
  exact low_64 v
theorem rd_other {N : Nat} {M : Nat × MapE} (hN : N ≤ 4096) (hw : wfE N M) {a b v : BitVec 64} (ha : okA N a) (hb : okA N b) (ne : b ≠ a) : rd8 (stA M [⟨a, 8, 0⟩] v) b = rd8 M b := by
  unfold rd8 getA
  refine ofG_congr fun i hi => ?_
  have ha1 := ha.1
  have hb1 := hb.1
  rw [hasB_iff] at ha1 hb1
  have na : offN a % 8 = 0 := by
    have h5 := congrArg BitVec.toNat ha.2
    rw [BitVec.toNat_umod] at h5
    have e0 : (0#64).toNat = 0 := rfl
    have e1 : (8#64).toNat = 8 := rfl
    rw [e0, e1] at h5
    rw [offN_eq]; omega
  have nb : offN b % 8 = 0 := by
    have h5 := congrArg BitVec.toNat hb.2
    rw [BitVec.toNat_umod] at h5
    have e0 : (0#64).toNat = 0 := rfl
    have e1 : (8#64).toNat = 8 := rfl
    rw [e0, e1] at h5
    rw [offN_eq]; omega
  have nn : offN a ≠ offN b := fun e => ne (BitVec.eq_of_toNat_eq (by rw [offN_eq, offN_eq] at e; omega))
  have e1 : byteU b 0#64 0 ((i / 8 : Nat) : Int) = b + BitVec.ofInt 64 ((i / 8 : Nat) : Int) := by unfold byteU; rw [if_neg (by omega)]
  by_cases hl : (i : Int) < 8 * 8
  · rw [e1, off_add hN hb.1 (by omega) (by omega), Int.toNat_natCast]
    show (decide _ && (memB (stM M (offN a) (8 : Int).toNat (partU v 8 0)).2 (offN b + i / 8)).getLsbD (i % 8)) = _
    rw [show (8 : Int).toNat = 8 from rfl, memB_st hw (by omega) (by omega) (by omega), if_neg (by omega)]
  · rw [decide_eq_false hl]; rfl
/-! ### asks of a walk -/
def wkQ (a : BitVec 64) : Ak := ⟨7, a, 0#64, 0, 8, 0, 0#64, 0#64, false⟩
def mkQ (a d o : BitVec 64) : Ak := ⟨8, a, 0#64, 0, 8, 0, d, o, false⟩
def askQ (s : Wst) : Ak := if s.mrk = true then mkQ s.at_ (markU s.et s.ac) s.et else wkQ s.at_
theorem wk_ok {z : ShS} {a : BitVec 64} (h : okA z.ram.n a) (hh : z.h = 1) : dOk z 0 (wkQ a) = true := by
  show (mayB z.ram.n 7 a 0#64 0 8 0 && (decide ((0 : Int) ≤ 0) && decide ((0 : Int) < z.h))) = true
  unfold mayB
  have f : formB 7 a 0 8 0 = true := by
    unfold formB
    rw [if_neg (by decide), show szA 7 0 = 8 from rfl, show BitVec.ofInt 64 8 = 8#64 from rfl, h.2]; rfl
  rw [acc_8 h.2, f, List.all_cons, h.1, hh]; rfl
theorem mk_ok {z : ShS} {a d o : BitVec 64} (h : okA z.ram.n a) (hh : z.h = 1) : dOk z 0 (mkQ a d o) = true := by
  show (mayB z.ram.n 8 a 0#64 0 8 0 && (decide ((0 : Int) ≤ 0) && decide ((0 : Int) < z.h))) = true
  unfold mayB
  have f : formB 8 a 0 8 0 = true := by
    unfold formB
    rw [if_neg (by decide), show szA 8 0 = 8 from rfl, show BitVec.ofInt 64 8 = 8#64 from rfl, h.2]; rfl
  rw [acc_8 h.2, f, List.all_cons, h.1, hh]; rfl
theorem wk_do {z : ShS} {a : BitVec 64} (h : okA z.ram.n a) (hh : z.h = 1) : dD z 0 (wkQ a) = rd8 z.ram.M a ∧ dG z 0 (wkQ a) = false ∧ dM z 0 (wkQ a) = z.ram.M ∧ dR z 0 (wkQ a) = z.R := by
  have ok := wk_ok h hh
  have w : dWr z 0 (wkQ a) = none := by
    unfold dWr; rw [if_pos ok, if_neg (show ¬ (wkQ a).k = 3 by simp [wkQ]), if_neg (show ¬ (wkQ a).k = 4 by simp [wkQ]), if_neg (show ¬ (wkQ a).k = 6 by simp [wkQ]), if_neg (show ¬ (wkQ a).k = 8 by simp [wkQ])]
  refine ⟨?_, ?_, ?_, ?_⟩
  · unfold dD; rw [if_pos ok, if_neg (show ¬ (wkQ a).k = 3 by simp [wkQ]), if_neg (show ¬ (wkQ a).k = 6 by simp [wkQ])]; rfl
  · unfold dG; rw [if_pos ok, if_neg (show ¬ (wkQ a).k = 6 by simp [wkQ]), if_neg (show ¬ (wkQ a).k = 8 by simp [wkQ])]
  · unfold dM; rw [w]
  · unfold dR; rw [if_pos ok, if_neg (show ¬ (wkQ a).k = 5 by simp [wkQ]), if_neg (show ¬ (wkQ a).k = 6 by simp [wkQ])]; unfold dR1; rw [w]
theorem mk_do {z : ShS} {a d o : BitVec 64} (h : okA z.ram.n a) (hh : z.h = 1) (ho : rd8 z.ram.M a = o) : dG z 0 (mkQ a d o) = true ∧ dM z 0 (mkQ a d o) = stA z.ram.M [⟨a, 8, 0⟩] d := by
  have ok := mk_ok (d := d) (o := o) h hh
  have v : dV z (mkQ a d o) = o := ho
  have w : dWr z 0 (mkQ a d o) = some d := by
    unfold dWr; rw [if_pos ok, if_neg (show ¬ (mkQ a d o).k = 3 by simp [mkQ]), if_neg (show ¬ (mkQ a d o).k = 4 by simp [mkQ]), if_neg (show ¬ (mkQ a d o).k = 6 by simp [mkQ]), if_pos (show (mkQ a d o).k = 8 from rfl), v]
    rw [if_pos (show o = (mkQ a d o).o from rfl)]; rfl
  refine ⟨?_, ?_⟩
  · unfold dG; rw [if_pos ok, if_neg (show ¬ (mkQ a d o).k = 6 by simp [mkQ]), if_pos (show (mkQ a d o).k = 8 from rfl), v]; exact decide_eq_true rfl
  · unfold dM; rw [w]
    show stA z.ram.M (accP a 0#64 0 8) d = _
    rw [acc_8 h.2]
/-! ### a walk's run in memory -/
structure Ts where
  w : Wst
  M : Nat × MapE
  R : List Sl
  a : Int
  b : Int
structure To where
  e : Int
  x : List Sc
  a : Int
  b : Int
  q : Bool
  M : Nat × MapE
  R : List Sl
def tkA (t : Ts) : Int := if t.w.mrk = true then t.a else t.a + 1
def tkB (t : Ts) : Int := if t.w.mrk = true then t.b + 1 else t.b
def stT (z : ShS) (t : Ts) : Ts := ⟨tellW t.w (dD (z.to t.M t.R) 0 (askQ t.w)) (dG (z.to t.M t.R) 0 (askQ t.w)), dM (z.to t.M t.R) 0 (askQ t.w), dR (z.to t.M t.R) 0 (askQ t.w), tkA t, tkB t⟩
def thN (z : ShS) : Nat → Ts → To
  | 0, t => ⟨0, entC 0#64 0 0#64, t.a, t.b, false, t.M, t.R⟩
  | f + 1, t => if endedW t.w = true then ⟨endI t.w, endE t.w, t.a, t.b, decide (t.w.ag = 0), t.M, t.R⟩ else
    if dOk (z.to t.M t.R) 0 (askQ t.w) = true then thN z f (stT z t) else ⟨0, entC 0#64 0 0#64, tkA t, tkB t, false, t.M, t.R⟩
theorem ventry_al (p v : BitVec 64) (l : Int) : ventryU p v l % 8#64 = 0#64 := by
  unfold ventryU
  split
  · have e : lowU p 44 <<< 12 ||| BitVec.ofInt 64 (placeU v l) <<< 3 = (lowU p 44 <<< 9 ||| BitVec.ofInt 64 (placeU v l)) <<< 3 := by
      apply BitVec.eq_of_getLsbD_eq
      intro i hi
      simp only [BitVec.getLsbD_or, BitVec.getLsbD_shiftLeft]
      by_cases h1 : i < 3
      · simp [h1, show i < 12 by omega]
      · by_cases h2 : i < 12
        · simp [h1, h2, hi, show i - 3 < 9 by omega]
        · simp [h1, h2, hi, show ¬ i - 3 < 9 by omega, show i - 3 - 9 = i - 12 by omega, show i - 3 < 64 by omega]
    rw [e]
    apply BitVec.eq_of_toNat_eq
    rw [BitVec.toNat_umod, BitVec.toNat_shiftLeft, Nat.shiftLeft_eq]
    have e0 : (0#64).toNat = 0 := rfl
    have e1 : (8#64).toNat = 8 := rfl
    rw [e0, e1]
    omega
  · rfl
theorem hasW_B {n : Nat} (h1 : 1 ≤ n) (h2 : n ≤ 4096) {a : BitVec 64} (h : hasW n a = true) : hasB n a 8 = true := by
  unfold hasW at h
  rw [if_neg (by omega), if_neg (by omega)] at h
  split at h
  · simp at h
  · rename_i hb
    have hb' : 2147483648 ≤ a.toNat := by
      rw [BitVec.lt_def] at hb
      have : (2147483648#64).toNat = 2147483648 := rfl
      omega
    have h3 := base_nat hb'
    have e0 : (BitVec.ofInt 64 (n : Int) * 64#64).toNat = 64 * n := by
      rw [BitVec.toNat_mul, BitVec.toNat_ofInt]
      have : (64#64).toNat = 64 := rfl
      rw [this]; omega
    simp only [Bool.and_eq_true, decide_eq_true_eq] at h
    obtain ⟨g1, g2⟩ := h
    rw [BitVec.lt_def, h3, e0] at g1
    rw [BitVec.le_def, BitVec.toNat_sub, h3, e0] at g2
    have : (8#64).toNat = 8 := rfl
    rw [hasB_iff]
    omega
/-- a walk that looks at a level's entry -/
structure Wat (n : Nat) (s : Wst) (l : Nat) : Prop where
  m : s.made = true
  e : s.en = 0
  k : s.mrk = false
  v : s.lv = l
  g : s.ag = 0
  a : okA n s.at_
  n : s.ln = n
theorem look_at {n : Nat} (h1 : 1 ≤ n) (h2 : n ≤ 4096) {s : Wst} (m : s.made = true) (e : s.en = 0) (g : s.ag = 0) (hn : s.ln = n) (p : BitVec 64) (l : Nat) : (Wat n (lookW s p l) l) ∨ (endedW (lookW s p l) = true ∧ (lookW s p l).en = 3 ∧ (lookW s p l).made = true ∧ (lookW s p l).ag = 0) := by
  by_cases hw : hasW s.ln (ventryU p s.va l) = true
  · refine .inl ⟨m, ?_, rfl, rfl, g, ⟨?_, ventry_al _ _ _⟩, hn⟩
    · show (if hasW s.ln (ventryU p s.va l) = true then s.en else 3) = 0
      rw [if_pos hw]; exact e
    · show hasB n (ventryU p s.va l) 8 = true
      rw [hn] at hw
      exact hasW_B h1 h2 hw
  · have e3 : (lookW s p l).en = 3 := by show (if hasW s.ln (ventryU p s.va l) = true then s.en else 3) = 3; rw [if_neg hw]
    refine .inr ⟨?_, e3, m, g⟩
    unfold endedW
    rw [e3]
    simp
theorem kind_12 {p : BitVec 64} {l m : Int} (h1 : kindU p l = 1) (h2 : kindU p m = 2) : False := by
  unfold kindU at h1 h2
  by_cases c : bitB p 1 = true ∨ bitB p 3 = true
  · simp only [c, if_true] at h1
    repeat' split at h1
    all_goals simp at h1
  · simp only [c, if_false] at h2
    repeat' split at h2
    all_goals simp at h2
theorem kind_1 {p : BitVec 64} {l : Int} (h1 : kindU p l = 1) : 1 ≤ l ∧ l ≤ 2 := by
  unfold kindU at h1
  by_cases a : l < 0
  · rw [if_pos a] at h1; simp at h1
  rw [if_neg a] at h1
  by_cases b : 2 < l
  · rw [if_pos b] at h1; simp at h1
  rw [if_neg b] at h1
  by_cases c : l = 0
  · simp only [c, if_true] at h1
    repeat' split at h1
    all_goals simp at h1
  · omega
end
end Go.Proofs.Ytanblagbkhpolaa
