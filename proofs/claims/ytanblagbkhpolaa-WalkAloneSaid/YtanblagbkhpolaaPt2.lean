/- Layer 25: entries: contracts, and the laws PteKinds and PteLets -/
import Derived.Test.YtanblagbkhpolaaP1
namespace Go.Proofs.Ytanblagbkhpolaa
open Go.Am
set_option linter.unusedSimpArgs false
set_option linter.unusedVariables false
noncomputable section

/-! ## XP2a -/
theorem rb_V {p : BitVec 64} : s_rbit25 [.c (.u p), .c (.k .u8 86)] = some (.c (.b (bitB p 0))) := rfl
theorem rb_R {p : BitVec 64} : s_rbit25 [.c (.u p), .c (.k .u8 82)] = some (.c (.b (bitB p 1))) := rfl
theorem rb_W {p : BitVec 64} : s_rbit25 [.c (.u p), .c (.k .u8 87)] = some (.c (.b (bitB p 2))) := rfl
theorem rb_X {p : BitVec 64} : s_rbit25 [.c (.u p), .c (.k .u8 88)] = some (.c (.b (bitB p 3))) := rfl
theorem rb_U {p : BitVec 64} : s_rbit25 [.c (.u p), .c (.k .u8 85)] = some (.c (.b (bitB p 4))) := rfl
theorem rb_G {p : BitVec 64} : s_rbit25 [.c (.u p), .c (.k .u8 71)] = some (.c (.b (bitB p 5))) := rfl
theorem rb_A {p : BitVec 64} : s_rbit25 [.c (.u p), .c (.k .u8 65)] = some (.c (.b (bitB p 6))) := rfl
theorem rb_D {p : BitVec 64} : s_rbit25 [.c (.u p), .c (.k .u8 68)] = some (.c (.b (bitB p 7))) := rfl
theorem low_cut (w : BitVec 64) (s : Int) : cutU w 0 s = lowU w s := (ofG_congr fun i hi => by rw [Int.zero_add, bitB_n])
theorem cut54 (p : BitVec 64) : cutU p 54 10 = p >>> 54 := by
  refine (ofG_ext fun i hi => ?_).symm
  have e1 : (54 : Int) + (i : Int) = ((54 + i : Nat) : Int) := by omega
  rw [BitVec.getLsbD_ushiftRight, e1, bitB_n]
  by_cases h : (i : Int) < 10
  · rw [decide_eq_true h, Bool.true_and]
  · rw [decide_eq_false h, Bool.false_and, BitVec.getLsbD_of_ge _ _ (by omega)]

def s_rkind (args : List AV) : Option AV :=
  match args with
  | [.c (.u p), .c (.i l)] => some (.c (.i (kindU p l)))
  | _ => none
theorem s_rkind_eq {p l} : s_rkind [.c (.u p), .c (.i l)] = some (.c (.i (kindU p l))) := rfl
set_option maxRecDepth 100000 in
set_option maxHeartbeats 2000000 in
theorem ok_rkind : PuOk Try.prog 30 s_rkind := by
  refine pu_ok (tab := [(58, .pu s_rbit25), (56, .pu s_rcut), (31, .pu s_rppn)]) hmix (TabOk.cons (e := .pu s_rbit25) ok_rbit25 (TabOk.cons (e := .pu s_rcut) ok_rcut (TabOk.cons (e := .pu s_rppn) ok_rppn TabOk.nil))) Try.func30 rfl Try.results30 Try.ntmps30 (by kernel_rfl) (by kernel_rfl) ?_
  intro args v h
  unfold s_rkind at h
  split at h
  · rename_i p l
    simp only [Option.some.injEq] at h; subst h
    refine ⟨by simp only [List.length_cons, List.length_nil]; decide, rfl, rfl, ?_⟩
    have i0 : inR 0 := ⟨by omega, by omega⟩
    have i54 : inR 54 := ⟨by omega, by omega⟩
    have i10 : inR 10 := ⟨by omega, by omega⟩
    by_cases h1 : l < 0
    · simp (config := { maxSteps := 10000000 }) only [go_sem, seval, rb_V, rb_R, rb_W, rb_X, rb_U, rb_A, rb_D, s_rcut_eq, s_rppn_eq, kindU, h1, i0, i54, i10, cut54, low_cut, or_true, true_or, or_false, false_or, or_self, false_and, and_false, true_and, and_true, and_self, Bool.true_or, Bool.or_true, Bool.false_or, Bool.or_false, Bool.or_self, Bool.true_and, Bool.and_true, Bool.false_and, Bool.and_false, ne_eq, not_true, not_false_iff]
    by_cases h2 : 2 < l
    · simp (config := { maxSteps := 10000000 }) only [go_sem, seval, rb_V, rb_R, rb_W, rb_X, rb_U, rb_A, rb_D, s_rcut_eq, s_rppn_eq, kindU, h1, h2, i0, i54, i10, cut54, low_cut, or_true, true_or, or_false, false_or, or_self, false_and, and_false, true_and, and_true, and_self, Bool.true_or, Bool.or_true, Bool.false_or, Bool.or_false, Bool.or_self, Bool.true_and, Bool.and_true, Bool.false_and, Bool.and_false, ne_eq, not_true, not_false_iff]
    have e9 : w64 (9 * l) = 9 * l := w64_of (by omega)
    have i9 : inR (9 * l) := ⟨by omega, by omega⟩
    cases hV : bitB p 0
    · simp (config := { maxSteps := 10000000 }) only [go_sem, seval, rb_V, rb_R, rb_W, rb_X, rb_U, rb_A, rb_D, s_rcut_eq, s_rppn_eq, kindU, h1, h2, hV, e9, i9, i0, i54, i10, cut54, low_cut, or_true, true_or, or_false, false_or, or_self, false_and, and_false, true_and, and_true, and_self, Bool.true_or, Bool.or_true, Bool.false_or, Bool.or_false, Bool.or_self, Bool.true_and, Bool.and_true, Bool.false_and, Bool.and_false, ne_eq, not_true, not_false_iff]
    cases hW : bitB p 2
    · skip
      by_cases h54 : p >>> 54 = 0#64
      rotate_left
      · simp (config := { maxSteps := 10000000 }) only [go_sem, seval, rb_V, rb_R, rb_W, rb_X, rb_U, rb_A, rb_D, s_rcut_eq, s_rppn_eq, kindU, h1, h2, hV, hW, h54, e9, i9, i0, i54, i10, cut54, low_cut, or_true, true_or, or_false, false_or, or_self, false_and, and_false, true_and, and_true, and_self, Bool.true_or, Bool.or_true, Bool.false_or, Bool.or_false, Bool.or_self, Bool.true_and, Bool.and_true, Bool.false_and, Bool.and_false, ne_eq, not_true, not_false_iff]
      cases hR : bitB p 1
      rotate_left
      · skip
        by_cases hlow : lowU (cutU p 10 44) (9 * l) = 0#64
        · simp (config := { maxSteps := 10000000 }) only [go_sem, seval, rb_V, rb_R, rb_W, rb_X, rb_U, rb_A, rb_D, s_rcut_eq, s_rppn_eq, kindU, h1, h2, hV, hW, h54, hR, hlow, e9, i9, i0, i54, i10, cut54, low_cut, or_true, true_or, or_false, false_or, or_self, false_and, and_false, true_and, and_true, and_self, Bool.true_or, Bool.or_true, Bool.false_or, Bool.or_false, Bool.or_self, Bool.true_and, Bool.and_true, Bool.false_and, Bool.and_false, ne_eq, not_true, not_false_iff]
        · simp (config := { maxSteps := 10000000 }) only [go_sem, seval, rb_V, rb_R, rb_W, rb_X, rb_U, rb_A, rb_D, s_rcut_eq, s_rppn_eq, kindU, h1, h2, hV, hW, h54, hR, hlow, e9, i9, i0, i54, i10, cut54, low_cut, or_true, true_or, or_false, false_or, or_self, false_and, and_false, true_and, and_true, and_self, Bool.true_or, Bool.or_true, Bool.false_or, Bool.or_false, Bool.or_self, Bool.true_and, Bool.and_true, Bool.false_and, Bool.and_false, ne_eq, not_true, not_false_iff]
      cases hX : bitB p 3
      rotate_left
      · skip
        by_cases hlow : lowU (cutU p 10 44) (9 * l) = 0#64
        · simp (config := { maxSteps := 10000000 }) only [go_sem, seval, rb_V, rb_R, rb_W, rb_X, rb_U, rb_A, rb_D, s_rcut_eq, s_rppn_eq, kindU, h1, h2, hV, hW, h54, hR, hX, hlow, e9, i9, i0, i54, i10, cut54, low_cut, or_true, true_or, or_false, false_or, or_self, false_and, and_false, true_and, and_true, and_self, Bool.true_or, Bool.or_true, Bool.false_or, Bool.or_false, Bool.or_self, Bool.true_and, Bool.and_true, Bool.false_and, Bool.and_false, ne_eq, not_true, not_false_iff]
        · simp (config := { maxSteps := 10000000 }) only [go_sem, seval, rb_V, rb_R, rb_W, rb_X, rb_U, rb_A, rb_D, s_rcut_eq, s_rppn_eq, kindU, h1, h2, hV, hW, h54, hR, hX, hlow, e9, i9, i0, i54, i10, cut54, low_cut, or_true, true_or, or_false, false_or, or_self, false_and, and_false, true_and, and_true, and_self, Bool.true_or, Bool.or_true, Bool.false_or, Bool.or_false, Bool.or_self, Bool.true_and, Bool.and_true, Bool.false_and, Bool.and_false, ne_eq, not_true, not_false_iff]
      by_cases h0 : l = 0
      · subst h0
        simp (config := { maxSteps := 10000000 }) only [go_sem, seval, rb_V, rb_R, rb_W, rb_X, rb_U, rb_A, rb_D, s_rcut_eq, s_rppn_eq, kindU, hV, hW, h54, hR, hX, e9, i9, i0, i54, i10, cut54, low_cut, or_true, true_or, or_false, false_or, or_self, false_and, and_false, true_and, and_true, and_self, Bool.true_or, Bool.or_true, Bool.false_or, Bool.or_false, Bool.or_self, Bool.true_and, Bool.and_true, Bool.false_and, Bool.and_false, ne_eq, not_true, not_false_iff]
      have hp : 0 < l := by omega
      cases hU : bitB p 4
      rotate_left
      · simp (config := { maxSteps := 10000000 }) only [go_sem, seval, rb_V, rb_R, rb_W, rb_X, rb_U, rb_A, rb_D, s_rcut_eq, s_rppn_eq, kindU, h1, h2, hV, hW, h54, hR, hX, h0, hp, hU, e9, i9, i0, i54, i10, cut54, low_cut, or_true, true_or, or_false, false_or, or_self, false_and, and_false, true_and, and_true, and_self, Bool.true_or, Bool.or_true, Bool.false_or, Bool.or_false, Bool.or_self, Bool.true_and, Bool.and_true, Bool.false_and, Bool.and_false, ne_eq, not_true, not_false_iff]
      cases hA : bitB p 6
      rotate_left
      · simp (config := { maxSteps := 10000000 }) only [go_sem, seval, rb_V, rb_R, rb_W, rb_X, rb_U, rb_A, rb_D, s_rcut_eq, s_rppn_eq, kindU, h1, h2, hV, hW, h54, hR, hX, h0, hp, hU, hA, e9, i9, i0, i54, i10, cut54, low_cut, or_true, true_or, or_false, false_or, or_self, false_and, and_false, true_and, and_true, and_self, Bool.true_or, Bool.or_true, Bool.false_or, Bool.or_false, Bool.or_self, Bool.true_and, Bool.and_true, Bool.false_and, Bool.and_false, ne_eq, not_true, not_false_iff]
      cases hD : bitB p 7
      · simp (config := { maxSteps := 10000000 }) only [go_sem, seval, rb_V, rb_R, rb_W, rb_X, rb_U, rb_A, rb_D, s_rcut_eq, s_rppn_eq, kindU, h1, h2, hV, hW, h54, hR, hX, h0, hp, hU, hA, hD, e9, i9, i0, i54, i10, cut54, low_cut, or_true, true_or, or_false, false_or, or_self, false_and, and_false, true_and, and_true, and_self, Bool.true_or, Bool.or_true, Bool.false_or, Bool.or_false, Bool.or_self, Bool.true_and, Bool.and_true, Bool.false_and, Bool.and_false, ne_eq, not_true, not_false_iff]
      · simp (config := { maxSteps := 10000000 }) only [go_sem, seval, rb_V, rb_R, rb_W, rb_X, rb_U, rb_A, rb_D, s_rcut_eq, s_rppn_eq, kindU, h1, h2, hV, hW, h54, hR, hX, h0, hp, hU, hA, hD, e9, i9, i0, i54, i10, cut54, low_cut, or_true, true_or, or_false, false_or, or_self, false_and, and_false, true_and, and_true, and_self, Bool.true_or, Bool.or_true, Bool.false_or, Bool.or_false, Bool.or_self, Bool.true_and, Bool.and_true, Bool.false_and, Bool.and_false, ne_eq, not_true, not_false_iff]
    · cases hR : bitB p 1
      · simp (config := { maxSteps := 10000000 }) only [go_sem, seval, rb_V, rb_R, rb_W, rb_X, rb_U, rb_A, rb_D, s_rcut_eq, s_rppn_eq, kindU, h1, h2, hV, hW, hR, e9, i9, i0, i54, i10, cut54, low_cut, or_true, true_or, or_false, false_or, or_self, false_and, and_false, true_and, and_true, and_self, Bool.true_or, Bool.or_true, Bool.false_or, Bool.or_false, Bool.or_self, Bool.true_and, Bool.and_true, Bool.false_and, Bool.and_false, ne_eq, not_true, not_false_iff]
      · skip
        by_cases h54 : p >>> 54 = 0#64
        rotate_left
        · simp (config := { maxSteps := 10000000 }) only [go_sem, seval, rb_V, rb_R, rb_W, rb_X, rb_U, rb_A, rb_D, s_rcut_eq, s_rppn_eq, kindU, h1, h2, hV, hW, hR, h54, e9, i9, i0, i54, i10, cut54, low_cut, or_true, true_or, or_false, false_or, or_self, false_and, and_false, true_and, and_true, and_self, Bool.true_or, Bool.or_true, Bool.false_or, Bool.or_false, Bool.or_self, Bool.true_and, Bool.and_true, Bool.false_and, Bool.and_false, ne_eq, not_true, not_false_iff]
        by_cases hlow : lowU (cutU p 10 44) (9 * l) = 0#64
        · simp (config := { maxSteps := 10000000 }) only [go_sem, seval, rb_V, rb_R, rb_W, rb_X, rb_U, rb_A, rb_D, s_rcut_eq, s_rppn_eq, kindU, h1, h2, hV, hW, hR, h54, hlow, e9, i9, i0, i54, i10, cut54, low_cut, or_true, true_or, or_false, false_or, or_self, false_and, and_false, true_and, and_true, and_self, Bool.true_or, Bool.or_true, Bool.false_or, Bool.or_false, Bool.or_self, Bool.true_and, Bool.and_true, Bool.false_and, Bool.and_false, ne_eq, not_true, not_false_iff]
        · simp (config := { maxSteps := 10000000 }) only [go_sem, seval, rb_V, rb_R, rb_W, rb_X, rb_U, rb_A, rb_D, s_rcut_eq, s_rppn_eq, kindU, h1, h2, hV, hW, hR, h54, hlow, e9, i9, i0, i54, i10, cut54, low_cut, or_true, true_or, or_false, false_or, or_self, false_and, and_false, true_and, and_true, and_self, Bool.true_or, Bool.or_true, Bool.false_or, Bool.or_false, Bool.or_self, Bool.true_and, Bool.and_true, Bool.false_and, Bool.and_false, ne_eq, not_true, not_false_iff]
  · simp at h

/-! ## XP2b -/
def passB (p : BitVec 64) (a : Int) (mx : Bool) : Bool := if a = 0 then bitB p 3 else if a = 1 then bitB p 1 || (mx && bitB p 3) else if a = 2 then bitB p 2 else false
def letsB (p : BitVec 64) (a r : Int) (su mx : Bool) : Bool := if passB p a mx = true then (if r = 0 then bitB p 4 else if bitB p 4 = true then su && !decide (a = 0) else true) else false

def s_plets (args : List AV) : Option AV :=
  match args with
  | [.c (.u p), .c (.i a), .c (.i r), .c (.b su), .c (.b mx)] => some (.c (.b (letsB p a r su mx)))
  | _ => none
theorem s_plets_eq {p a r su mx} : s_plets [.c (.u p), .c (.i a), .c (.i r), .c (.b su), .c (.b mx)] = some (.c (.b (letsB p a r su mx))) := rfl
set_option maxRecDepth 100000 in
set_option maxHeartbeats 2000000 in
theorem ok_plets : PuOk Try.prog 18 s_plets := by
  refine pu_ok (tab := [(45, .pu s_has)]) hmix (TabOk.cons (e := .pu s_has) ok_has TabOk.nil) Try.func18 rfl Try.results18 Try.ntmps18 (by kernel_rfl) (by kernel_rfl) ?_
  intro args v h
  unfold s_plets at h
  split at h
  · rename_i p a r su mx
    simp only [Option.some.injEq] at h; subst h
    refine ⟨by simp only [List.length_cons, List.length_nil]; decide, rfl, rfl, ?_⟩
    by_cases g0 : a = 0
    · subst g0
      cases hX : bitB p 3
      · simp (config := { maxSteps := 10000000 }) only [go_sem, seval, s_has_eq, letsB, passB, hX, Bool.and_self, BEq.rfl, or_true, true_or, or_false, false_or, or_self, false_and, and_false, true_and, and_true, and_self, Bool.true_or, Bool.or_true, Bool.false_or, Bool.or_false, Bool.or_self, Bool.true_and, Bool.and_true, Bool.false_and, Bool.and_false, ne_eq, not_true, not_false_iff]
      · skip
        by_cases hr : r = 0
        · simp (config := { maxSteps := 10000000 }) only [go_sem, seval, s_has_eq, letsB, passB, hX, hr, Bool.and_self, BEq.rfl, or_true, true_or, or_false, false_or, or_self, false_and, and_false, true_and, and_true, and_self, Bool.true_or, Bool.or_true, Bool.false_or, Bool.or_false, Bool.or_self, Bool.true_and, Bool.and_true, Bool.false_and, Bool.and_false, ne_eq, not_true, not_false_iff]
        cases hU : bitB p 4
        · simp (config := { maxSteps := 10000000 }) only [go_sem, seval, s_has_eq, letsB, passB, hX, hr, hU, Bool.and_self, BEq.rfl, or_true, true_or, or_false, false_or, or_self, false_and, and_false, true_and, and_true, and_self, Bool.true_or, Bool.or_true, Bool.false_or, Bool.or_false, Bool.or_self, Bool.true_and, Bool.and_true, Bool.false_and, Bool.and_false, ne_eq, not_true, not_false_iff]
        cases su
        · simp (config := { maxSteps := 10000000 }) only [go_sem, seval, s_has_eq, letsB, passB, hX, hr, hU, Bool.and_self, BEq.rfl, or_true, true_or, or_false, false_or, or_self, false_and, and_false, true_and, and_true, and_self, Bool.true_or, Bool.or_true, Bool.false_or, Bool.or_false, Bool.or_self, Bool.true_and, Bool.and_true, Bool.false_and, Bool.and_false, ne_eq, not_true, not_false_iff]
        · simp (config := { maxSteps := 10000000 }) only [go_sem, seval, s_has_eq, letsB, passB, hX, hr, hU, Bool.and_self, BEq.rfl, or_true, true_or, or_false, false_or, or_self, false_and, and_false, true_and, and_true, and_self, Bool.true_or, Bool.or_true, Bool.false_or, Bool.or_false, Bool.or_self, Bool.true_and, Bool.and_true, Bool.false_and, Bool.and_false, ne_eq, not_true, not_false_iff]
    by_cases g1 : a = 1
    · subst g1
      cases hR : bitB p 1
      rotate_left
      · skip
        by_cases hr : r = 0
        · simp (config := { maxSteps := 10000000 }) only [go_sem, seval, s_has_eq, letsB, passB, hR, hr, Bool.and_self, BEq.rfl, or_true, true_or, or_false, false_or, or_self, false_and, and_false, true_and, and_true, and_self, Bool.true_or, Bool.or_true, Bool.false_or, Bool.or_false, Bool.or_self, Bool.true_and, Bool.and_true, Bool.false_and, Bool.and_false, ne_eq, not_true, not_false_iff]
        cases hU : bitB p 4
        · simp (config := { maxSteps := 10000000 }) only [go_sem, seval, s_has_eq, letsB, passB, hR, hr, hU, Bool.and_self, BEq.rfl, or_true, true_or, or_false, false_or, or_self, false_and, and_false, true_and, and_true, and_self, Bool.true_or, Bool.or_true, Bool.false_or, Bool.or_false, Bool.or_self, Bool.true_and, Bool.and_true, Bool.false_and, Bool.and_false, ne_eq, not_true, not_false_iff]
        cases su
        · simp (config := { maxSteps := 10000000 }) only [go_sem, seval, s_has_eq, letsB, passB, hR, hr, hU, Bool.and_self, BEq.rfl, or_true, true_or, or_false, false_or, or_self, false_and, and_false, true_and, and_true, and_self, Bool.true_or, Bool.or_true, Bool.false_or, Bool.or_false, Bool.or_self, Bool.true_and, Bool.and_true, Bool.false_and, Bool.and_false, ne_eq, not_true, not_false_iff]
        · simp (config := { maxSteps := 10000000 }) only [go_sem, seval, s_has_eq, letsB, passB, hR, hr, hU, Bool.and_self, BEq.rfl, or_true, true_or, or_false, false_or, or_self, false_and, and_false, true_and, and_true, and_self, Bool.true_or, Bool.or_true, Bool.false_or, Bool.or_false, Bool.or_self, Bool.true_and, Bool.and_true, Bool.false_and, Bool.and_false, ne_eq, not_true, not_false_iff]
      cases mx
      · simp (config := { maxSteps := 10000000 }) only [go_sem, seval, s_has_eq, letsB, passB, hR, Bool.and_self, BEq.rfl, or_true, true_or, or_false, false_or, or_self, false_and, and_false, true_and, and_true, and_self, Bool.true_or, Bool.or_true, Bool.false_or, Bool.or_false, Bool.or_self, Bool.true_and, Bool.and_true, Bool.false_and, Bool.and_false, ne_eq, not_true, not_false_iff]
      cases hX : bitB p 3
      · simp (config := { maxSteps := 10000000 }) only [go_sem, seval, s_has_eq, letsB, passB, hR, hX, Bool.and_self, BEq.rfl, or_true, true_or, or_false, false_or, or_self, false_and, and_false, true_and, and_true, and_self, Bool.true_or, Bool.or_true, Bool.false_or, Bool.or_false, Bool.or_self, Bool.true_and, Bool.and_true, Bool.false_and, Bool.and_false, ne_eq, not_true, not_false_iff]
      · skip
        by_cases hr : r = 0
        · simp (config := { maxSteps := 10000000 }) only [go_sem, seval, s_has_eq, letsB, passB, hR, hX, hr, Bool.and_self, BEq.rfl, or_true, true_or, or_false, false_or, or_self, false_and, and_false, true_and, and_true, and_self, Bool.true_or, Bool.or_true, Bool.false_or, Bool.or_false, Bool.or_self, Bool.true_and, Bool.and_true, Bool.false_and, Bool.and_false, ne_eq, not_true, not_false_iff]
        cases hU : bitB p 4
        · simp (config := { maxSteps := 10000000 }) only [go_sem, seval, s_has_eq, letsB, passB, hR, hX, hr, hU, Bool.and_self, BEq.rfl, or_true, true_or, or_false, false_or, or_self, false_and, and_false, true_and, and_true, and_self, Bool.true_or, Bool.or_true, Bool.false_or, Bool.or_false, Bool.or_self, Bool.true_and, Bool.and_true, Bool.false_and, Bool.and_false, ne_eq, not_true, not_false_iff]
        cases su
        · simp (config := { maxSteps := 10000000 }) only [go_sem, seval, s_has_eq, letsB, passB, hR, hX, hr, hU, Bool.and_self, BEq.rfl, or_true, true_or, or_false, false_or, or_self, false_and, and_false, true_and, and_true, and_self, Bool.true_or, Bool.or_true, Bool.false_or, Bool.or_false, Bool.or_self, Bool.true_and, Bool.and_true, Bool.false_and, Bool.and_false, ne_eq, not_true, not_false_iff]
        · simp (config := { maxSteps := 10000000 }) only [go_sem, seval, s_has_eq, letsB, passB, hR, hX, hr, hU, Bool.and_self, BEq.rfl, or_true, true_or, or_false, false_or, or_self, false_and, and_false, true_and, and_true, and_self, Bool.true_or, Bool.or_true, Bool.false_or, Bool.or_false, Bool.or_self, Bool.true_and, Bool.and_true, Bool.false_and, Bool.and_false, ne_eq, not_true, not_false_iff]
    by_cases g2 : a = 2
    · subst g2
      cases hW : bitB p 2
      · simp (config := { maxSteps := 10000000 }) only [go_sem, seval, s_has_eq, letsB, passB, hW, Bool.and_self, BEq.rfl, or_true, true_or, or_false, false_or, or_self, false_and, and_false, true_and, and_true, and_self, Bool.true_or, Bool.or_true, Bool.false_or, Bool.or_false, Bool.or_self, Bool.true_and, Bool.and_true, Bool.false_and, Bool.and_false, ne_eq, not_true, not_false_iff]
      · skip
        by_cases hr : r = 0
        · simp (config := { maxSteps := 10000000 }) only [go_sem, seval, s_has_eq, letsB, passB, hW, hr, Bool.and_self, BEq.rfl, or_true, true_or, or_false, false_or, or_self, false_and, and_false, true_and, and_true, and_self, Bool.true_or, Bool.or_true, Bool.false_or, Bool.or_false, Bool.or_self, Bool.true_and, Bool.and_true, Bool.false_and, Bool.and_false, ne_eq, not_true, not_false_iff]
        cases hU : bitB p 4
        · simp (config := { maxSteps := 10000000 }) only [go_sem, seval, s_has_eq, letsB, passB, hW, hr, hU, Bool.and_self, BEq.rfl, or_true, true_or, or_false, false_or, or_self, false_and, and_false, true_and, and_true, and_self, Bool.true_or, Bool.or_true, Bool.false_or, Bool.or_false, Bool.or_self, Bool.true_and, Bool.and_true, Bool.false_and, Bool.and_false, ne_eq, not_true, not_false_iff]
        cases su
        · simp (config := { maxSteps := 10000000 }) only [go_sem, seval, s_has_eq, letsB, passB, hW, hr, hU, Bool.and_self, BEq.rfl, or_true, true_or, or_false, false_or, or_self, false_and, and_false, true_and, and_true, and_self, Bool.true_or, Bool.or_true, Bool.false_or, Bool.or_false, Bool.or_self, Bool.true_and, Bool.and_true, Bool.false_and, Bool.and_false, ne_eq, not_true, not_false_iff]
        · simp (config := { maxSteps := 10000000 }) only [go_sem, seval, s_has_eq, letsB, passB, hW, hr, hU, Bool.and_self, BEq.rfl, or_true, true_or, or_false, false_or, or_self, false_and, and_false, true_and, and_true, and_self, Bool.true_or, Bool.or_true, Bool.false_or, Bool.or_false, Bool.or_self, Bool.true_and, Bool.and_true, Bool.false_and, Bool.and_false, ne_eq, not_true, not_false_iff]
    by_cases h1 : a < 0
    · simp (config := { maxSteps := 10000000 }) only [go_sem, seval, s_has_eq, letsB, passB, g0, g1, g2, h1, Bool.and_self, BEq.rfl, or_true, true_or, or_false, false_or, or_self, false_and, and_false, true_and, and_true, and_self, Bool.true_or, Bool.or_true, Bool.false_or, Bool.or_false, Bool.or_self, Bool.true_and, Bool.and_true, Bool.false_and, Bool.and_false, ne_eq, not_true, not_false_iff]
    have h2 : 2 < a := by omega
    simp (config := { maxSteps := 10000000 }) only [go_sem, seval, s_has_eq, letsB, passB, g0, g1, g2, h1, h2, Bool.and_self, BEq.rfl, or_true, true_or, or_false, false_or, or_self, false_and, and_false, true_and, and_true, and_self, Bool.true_or, Bool.or_true, Bool.false_or, Bool.or_false, Bool.or_self, Bool.true_and, Bool.and_true, Bool.false_and, Bool.and_false, ne_eq, not_true, not_false_iff]
  · simp at h

/-! ## XP2c -/
def s_rlets (args : List AV) : Option AV :=
  match args with
  | [.c (.u p), .c (.i a), .c (.i r), .c (.b su), .c (.b mx)] => some (.c (.b (letsB p a r su mx)))
  | _ => none
theorem s_rlets_eq {p a r su mx} : s_rlets [.c (.u p), .c (.i a), .c (.i r), .c (.b su), .c (.b mx)] = some (.c (.b (letsB p a r su mx))) := rfl
set_option maxRecDepth 100000 in
set_option maxHeartbeats 2000000 in
theorem ok_rlets : PuOk Try.prog 32 s_rlets := by
  refine pu_ok (tab := [(58, .pu s_rbit25)]) hmix (TabOk.cons (e := .pu s_rbit25) ok_rbit25 TabOk.nil) Try.func32 rfl Try.results32 Try.ntmps32 (by kernel_rfl) (by kernel_rfl) ?_
  intro args v h
  unfold s_rlets at h
  split at h
  · rename_i p a r su mx
    simp only [Option.some.injEq] at h; subst h
    refine ⟨by simp only [List.length_cons, List.length_nil]; decide, rfl, rfl, ?_⟩
    by_cases g0 : a = 0
    · subst g0
      cases hX : bitB p 3
      · simp (config := { maxSteps := 10000000 }) only [go_sem, seval, rb_R, rb_W, rb_X, rb_U, letsB, passB, hX, Bool.and_self, BEq.rfl, or_true, true_or, or_false, false_or, or_self, false_and, and_false, true_and, and_true, and_self, Bool.true_or, Bool.or_true, Bool.false_or, Bool.or_false, Bool.or_self, Bool.true_and, Bool.and_true, Bool.false_and, Bool.and_false, ne_eq, not_true, not_false_iff]
      · skip
        by_cases hr : r = 0
        · simp (config := { maxSteps := 10000000 }) only [go_sem, seval, rb_R, rb_W, rb_X, rb_U, letsB, passB, hX, hr, Bool.and_self, BEq.rfl, or_true, true_or, or_false, false_or, or_self, false_and, and_false, true_and, and_true, and_self, Bool.true_or, Bool.or_true, Bool.false_or, Bool.or_false, Bool.or_self, Bool.true_and, Bool.and_true, Bool.false_and, Bool.and_false, ne_eq, not_true, not_false_iff]
        cases hU : bitB p 4
        · simp (config := { maxSteps := 10000000 }) only [go_sem, seval, rb_R, rb_W, rb_X, rb_U, letsB, passB, hX, hr, hU, Bool.and_self, BEq.rfl, or_true, true_or, or_false, false_or, or_self, false_and, and_false, true_and, and_true, and_self, Bool.true_or, Bool.or_true, Bool.false_or, Bool.or_false, Bool.or_self, Bool.true_and, Bool.and_true, Bool.false_and, Bool.and_false, ne_eq, not_true, not_false_iff]
        cases su
        · simp (config := { maxSteps := 10000000 }) only [go_sem, seval, rb_R, rb_W, rb_X, rb_U, letsB, passB, hX, hr, hU, Bool.and_self, BEq.rfl, or_true, true_or, or_false, false_or, or_self, false_and, and_false, true_and, and_true, and_self, Bool.true_or, Bool.or_true, Bool.false_or, Bool.or_false, Bool.or_self, Bool.true_and, Bool.and_true, Bool.false_and, Bool.and_false, ne_eq, not_true, not_false_iff]
        · simp (config := { maxSteps := 10000000 }) only [go_sem, seval, rb_R, rb_W, rb_X, rb_U, letsB, passB, hX, hr, hU, Bool.and_self, BEq.rfl, or_true, true_or, or_false, false_or, or_self, false_and, and_false, true_and, and_true, and_self, Bool.true_or, Bool.or_true, Bool.false_or, Bool.or_false, Bool.or_self, Bool.true_and, Bool.and_true, Bool.false_and, Bool.and_false, ne_eq, not_true, not_false_iff]
    by_cases g1 : a = 1
    · subst g1
      cases hR : bitB p 1
      rotate_left
      · skip
        by_cases hr : r = 0
        · simp (config := { maxSteps := 10000000 }) only [go_sem, seval, rb_R, rb_W, rb_X, rb_U, letsB, passB, hR, hr, Bool.and_self, BEq.rfl, or_true, true_or, or_false, false_or, or_self, false_and, and_false, true_and, and_true, and_self, Bool.true_or, Bool.or_true, Bool.false_or, Bool.or_false, Bool.or_self, Bool.true_and, Bool.and_true, Bool.false_and, Bool.and_false, ne_eq, not_true, not_false_iff]
        cases hU : bitB p 4
        · simp (config := { maxSteps := 10000000 }) only [go_sem, seval, rb_R, rb_W, rb_X, rb_U, letsB, passB, hR, hr, hU, Bool.and_self, BEq.rfl, or_true, true_or, or_false, false_or, or_self, false_and, and_false, true_and, and_true, and_self, Bool.true_or, Bool.or_true, Bool.false_or, Bool.or_false, Bool.or_self, Bool.true_and, Bool.and_true, Bool.false_and, Bool.and_false, ne_eq, not_true, not_false_iff]
        cases su
        · simp (config := { maxSteps := 10000000 }) only [go_sem, seval, rb_R, rb_W, rb_X, rb_U, letsB, passB, hR, hr, hU, Bool.and_self, BEq.rfl, or_true, true_or, or_false, false_or, or_self, false_and, and_false, true_and, and_true, and_self, Bool.true_or, Bool.or_true, Bool.false_or, Bool.or_false, Bool.or_self, Bool.true_and, Bool.and_true, Bool.false_and, Bool.and_false, ne_eq, not_true, not_false_iff]
        · simp (config := { maxSteps := 10000000 }) only [go_sem, seval, rb_R, rb_W, rb_X, rb_U, letsB, passB, hR, hr, hU, Bool.and_self, BEq.rfl, or_true, true_or, or_false, false_or, or_self, false_and, and_false, true_and, and_true, and_self, Bool.true_or, Bool.or_true, Bool.false_or, Bool.or_false, Bool.or_self, Bool.true_and, Bool.and_true, Bool.false_and, Bool.and_false, ne_eq, not_true, not_false_iff]
      cases mx
      · simp (config := { maxSteps := 10000000 }) only [go_sem, seval, rb_R, rb_W, rb_X, rb_U, letsB, passB, hR, Bool.and_self, BEq.rfl, or_true, true_or, or_false, false_or, or_self, false_and, and_false, true_and, and_true, and_self, Bool.true_or, Bool.or_true, Bool.false_or, Bool.or_false, Bool.or_self, Bool.true_and, Bool.and_true, Bool.false_and, Bool.and_false, ne_eq, not_true, not_false_iff]
      cases hX : bitB p 3
      · simp (config := { maxSteps := 10000000 }) only [go_sem, seval, rb_R, rb_W, rb_X, rb_U, letsB, passB, hR, hX, Bool.and_self, BEq.rfl, or_true, true_or, or_false, false_or, or_self, false_and, and_false, true_and, and_true, and_self, Bool.true_or, Bool.or_true, Bool.false_or, Bool.or_false, Bool.or_self, Bool.true_and, Bool.and_true, Bool.false_and, Bool.and_false, ne_eq, not_true, not_false_iff]
      · skip
        by_cases hr : r = 0
        · simp (config := { maxSteps := 10000000 }) only [go_sem, seval, rb_R, rb_W, rb_X, rb_U, letsB, passB, hR, hX, hr, Bool.and_self, BEq.rfl, or_true, true_or, or_false, false_or, or_self, false_and, and_false, true_and, and_true, and_self, Bool.true_or, Bool.or_true, Bool.false_or, Bool.or_false, Bool.or_self, Bool.true_and, Bool.and_true, Bool.false_and, Bool.and_false, ne_eq, not_true, not_false_iff]
        cases hU : bitB p 4
        · simp (config := { maxSteps := 10000000 }) only [go_sem, seval, rb_R, rb_W, rb_X, rb_U, letsB, passB, hR, hX, hr, hU, Bool.and_self, BEq.rfl, or_true, true_or, or_false, false_or, or_self, false_and, and_false, true_and, and_true, and_self, Bool.true_or, Bool.or_true, Bool.false_or, Bool.or_false, Bool.or_self, Bool.true_and, Bool.and_true, Bool.false_and, Bool.and_false, ne_eq, not_true, not_false_iff]
        cases su
        · simp (config := { maxSteps := 10000000 }) only [go_sem, seval, rb_R, rb_W, rb_X, rb_U, letsB, passB, hR, hX, hr, hU, Bool.and_self, BEq.rfl, or_true, true_or, or_false, false_or, or_self, false_and, and_false, true_and, and_true, and_self, Bool.true_or, Bool.or_true, Bool.false_or, Bool.or_false, Bool.or_self, Bool.true_and, Bool.and_true, Bool.false_and, Bool.and_false, ne_eq, not_true, not_false_iff]
        · simp (config := { maxSteps := 10000000 }) only [go_sem, seval, rb_R, rb_W, rb_X, rb_U, letsB, passB, hR, hX, hr, hU, Bool.and_self, BEq.rfl, or_true, true_or, or_false, false_or, or_self, false_and, and_false, true_and, and_true, and_self, Bool.true_or, Bool.or_true, Bool.false_or, Bool.or_false, Bool.or_self, Bool.true_and, Bool.and_true, Bool.false_and, Bool.and_false, ne_eq, not_true, not_false_iff]
    by_cases g2 : a = 2
    · subst g2
      cases hW : bitB p 2
      · simp (config := { maxSteps := 10000000 }) only [go_sem, seval, rb_R, rb_W, rb_X, rb_U, letsB, passB, hW, Bool.and_self, BEq.rfl, or_true, true_or, or_false, false_or, or_self, false_and, and_false, true_and, and_true, and_self, Bool.true_or, Bool.or_true, Bool.false_or, Bool.or_false, Bool.or_self, Bool.true_and, Bool.and_true, Bool.false_and, Bool.and_false, ne_eq, not_true, not_false_iff]
      · skip
        by_cases hr : r = 0
        · simp (config := { maxSteps := 10000000 }) only [go_sem, seval, rb_R, rb_W, rb_X, rb_U, letsB, passB, hW, hr, Bool.and_self, BEq.rfl, or_true, true_or, or_false, false_or, or_self, false_and, and_false, true_and, and_true, and_self, Bool.true_or, Bool.or_true, Bool.false_or, Bool.or_false, Bool.or_self, Bool.true_and, Bool.and_true, Bool.false_and, Bool.and_false, ne_eq, not_true, not_false_iff]
        cases hU : bitB p 4
        · simp (config := { maxSteps := 10000000 }) only [go_sem, seval, rb_R, rb_W, rb_X, rb_U, letsB, passB, hW, hr, hU, Bool.and_self, BEq.rfl, or_true, true_or, or_false, false_or, or_self, false_and, and_false, true_and, and_true, and_self, Bool.true_or, Bool.or_true, Bool.false_or, Bool.or_false, Bool.or_self, Bool.true_and, Bool.and_true, Bool.false_and, Bool.and_false, ne_eq, not_true, not_false_iff]
        cases su
        · simp (config := { maxSteps := 10000000 }) only [go_sem, seval, rb_R, rb_W, rb_X, rb_U, letsB, passB, hW, hr, hU, Bool.and_self, BEq.rfl, or_true, true_or, or_false, false_or, or_self, false_and, and_false, true_and, and_true, and_self, Bool.true_or, Bool.or_true, Bool.false_or, Bool.or_false, Bool.or_self, Bool.true_and, Bool.and_true, Bool.false_and, Bool.and_false, ne_eq, not_true, not_false_iff]
        · simp (config := { maxSteps := 10000000 }) only [go_sem, seval, rb_R, rb_W, rb_X, rb_U, letsB, passB, hW, hr, hU, Bool.and_self, BEq.rfl, or_true, true_or, or_false, false_or, or_self, false_and, and_false, true_and, and_true, and_self, Bool.true_or, Bool.or_true, Bool.false_or, Bool.or_false, Bool.or_self, Bool.true_and, Bool.and_true, Bool.false_and, Bool.and_false, ne_eq, not_true, not_false_iff]
    simp (config := { maxSteps := 10000000 }) only [go_sem, seval, rb_R, rb_W, rb_X, rb_U, letsB, passB, g0, g1, g2, Bool.and_self, BEq.rfl, or_true, true_or, or_false, false_or, or_self, false_and, and_false, true_and, and_true, and_self, Bool.true_or, Bool.or_true, Bool.false_or, Bool.or_false, Bool.or_self, Bool.true_and, Bool.and_true, Bool.false_and, Bool.and_false, ne_eq, not_true, not_false_iff]
  · simp at h

/-! ## XP2 -/
def markU (p : BitVec 64) (a : Int) : BitVec 64 := if a = 2 then p ||| 64#64 ||| 128#64 else p ||| 64#64
theorem put6 (p : BitVec 64) (k : Nat) (hk : k < 64) : putU p k 1 1#64 = p ||| 1#64 <<< k := by
  refine (ofG_ext fun i hi => ?_).symm
  rw [BitVec.getLsbD_or, BitVec.getLsbD_shiftLeft]
  by_cases h : i = k
  · subst h
    have hp : inP i 1 i = true := decide_eq_true (by omega)
    have e : (i : Int) - (i : Int) = ((0 : Nat) : Int) := by omega
    rw [hp, if_pos rfl, e, bitB_n]; simp [hi]
  · have hp : inP k 1 i = false := decide_eq_false (by omega)
    rw [hp]
    by_cases h2 : i < k
    · simp [h2]
    · have h3 : i - k ≠ 0 := by omega
      simp [h2, h3]
def s_pmarked (args : List AV) : Option AV :=
  match args with
  | [.c (.u p), .c (.i a)] => some (.t [.c (.u (markU p a)), .c (.b (!decide (markU p a = p)))])
  | _ => none
theorem s_pmarked_eq {p a} : s_pmarked [.c (.u p), .c (.i a)] = some (.t [.c (.u (markU p a)), .c (.b (!decide (markU p a = p)))]) := rfl
set_option maxRecDepth 100000 in
set_option maxHeartbeats 2000000 in
theorem ok_pmarked : PuOk Try.prog 17 s_pmarked := by
  refine pu_ok (tab := []) hmix TabOk.nil Try.func17 rfl Try.results17 Try.ntmps17 (by kernel_rfl) (by kernel_rfl) ?_
  intro args v h
  unfold s_pmarked at h
  split at h
  · rename_i p a
    simp only [Option.some.injEq] at h; subst h
    refine ⟨by simp only [List.length_cons, List.length_nil]; decide, rfl, rfl, ?_⟩
    by_cases h : a = 2
    · simp (config := { maxSteps := 10000000 }) only [go_sem, seval, markU, h]
    · simp (config := { maxSteps := 10000000 }) only [go_sem, seval, markU, h]
  · simp at h
def s_rmarked (args : List AV) : Option AV :=
  match args with
  | [.c (.u p), .c (.i a)] => some (.c (.u (markU p a)))
  | _ => none
theorem s_rmarked_eq {p a} : s_rmarked [.c (.u p), .c (.i a)] = some (.c (.u (markU p a))) := rfl
set_option maxRecDepth 100000 in
set_option maxHeartbeats 2000000 in
theorem ok_rmarked : PuOk Try.prog 33 s_rmarked := by
  refine pu_ok (tab := [(59, .pu s_rput)]) hmix (TabOk.cons (e := .pu s_rput) ok_rput TabOk.nil) Try.func33 rfl Try.results33 Try.ntmps33 (by kernel_rfl) (by kernel_rfl) ?_
  intro args v h
  unfold s_rmarked at h
  split at h
  · rename_i p a
    simp only [Option.some.injEq] at h; subst h
    refine ⟨by simp only [List.length_cons, List.length_nil]; decide, rfl, rfl, ?_⟩
    have i1 : inR 6 := ⟨by omega, by omega⟩
    have i2 : inR 1 := ⟨by omega, by omega⟩
    have i3 : inR 7 := ⟨by omega, by omega⟩
    have e1 : putU p 6 1 1#64 = p ||| 64#64 := put6 p 6 (by omega)
    have e2 : putU (p ||| 64#64) 7 1 1#64 = p ||| 64#64 ||| 128#64 := put6 _ 7 (by omega)
    by_cases h : a = 2
    · simp (config := { maxSteps := 10000000 }) only [go_sem, seval, s_rput_eq, markU, h, i1, i2, i3, e1, e2]
    · simp (config := { maxSteps := 10000000 }) only [go_sem, seval, s_rput_eq, markU, h, i1, i2, e1]
  · simp at h
def frameU (p : BitVec 64) (l : Int) (v : BitVec 64) : BitVec 64 := if l < 0 then 0#64 else if 2 < l then 0#64 else putU (cutU p 10 44 <<< 12) 0 (12 + 9 * l) v
theorem mul4096 (w : BitVec 64) : w * 4096#64 = w <<< 12 := by
  apply BitVec.eq_of_toNat_eq
  rw [BitVec.toNat_mul, BitVec.toNat_shiftLeft, Nat.shiftLeft_eq]; rfl
theorem live_25 : kindU 1#64 1 = 1 ∧ kindU 1#64 0 = 0 ∧ kindU 7#64 2 = 2 ∧ frameU (makeU 512#64 7#64) 1 4660#64 = 2101812#64 := by
  refine ⟨?_, ?_, ?_, ?_⟩
  · simp only [kindU, lowU, cutU, ofG_eqn]; decide +kernel
  · simp only [kindU, lowU, cutU, ofG_eqn]; decide +kernel
  · simp only [kindU, lowU, cutU, ofG_eqn]; decide +kernel
  · simp only [frameU, makeU, putU, lowU, cutU, ofG_eqn]; decide +kernel
theorem make_eq (a b : BitVec 64) : makeU a b = lowU a 44 * 1024#64 + lowU b 10 := by
  have e1 : lowU a 44 * 1024#64 = lowU a 44 <<< 10 := by
    apply BitVec.eq_of_toNat_eq
    rw [BitVec.toNat_mul, BitVec.toNat_shiftLeft, Nat.shiftLeft_eq]; rfl
  rw [e1, BitVec.add_eq_or_of_and_eq_zero, makeU]
  apply BitVec.eq_of_getLsbD_eq
  intro i hi
  have c : (lowU b 10).getLsbD i = (decide ((i : Int) < 10) && b.getLsbD i) := ofG_get hi
  rw [BitVec.getLsbD_and, BitVec.getLsbD_shiftLeft, c]
  by_cases h : i < 10
  · simp [h]
  · have h' : ¬ (i : Int) < 10 := by omega
    rw [decide_eq_false h']; simp
end
end Go.Proofs.Ytanblagbkhpolaa
