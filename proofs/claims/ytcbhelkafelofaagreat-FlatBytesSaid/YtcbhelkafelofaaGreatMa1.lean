/- Layer 29: mail: contracts. -/
import Derived.Test.YtcbhelkafelofaaGreatSpl
namespace Go.Proofs.YtcbhelkafelofaaGreat
open Go.Am
set_option linter.unusedSimpArgs false
set_option linter.unusedVariables false
noncomputable section

/-- a request -/
structure Rq where
  s : Bool
  v : Bool
  d : Bool
  a : BitVec 64
  i : Int
def encR (r : Rq) : List Sc := [.b r.s, .b r.v, .b r.d, .u r.a, .i r.i]
def dcR : List Sc → Option Rq
  | [.b s, .b v, .b d, .u a, .i i] => some ⟨s, v, d, a, i⟩
  | _ => none
theorem dcR_e (r : Rq) : dcR (encR r) = some r := rfl
theorem dcR_d (cs : List Sc) (r : Rq) (h : dcR cs = some r) : cs = encR r := by
  unfold dcR at h
  split at h
  · simp only [Option.some.injEq] at h; subst h; rfl
  · simp at h
theorem encR_l (r : Rq) : (encR r).length = 5 := rfl
def rq0 : Rq := ⟨false, false, false, 0#64, 0⟩
abbrev Row := {r : List Rq // r.length = 8}
def rowC (r : Row) : List Sc := r.1.flatMap encR
theorem rowC_l (r : Row) : (rowC r).length = 40 := by unfold rowC; rw [fm_len encR_l, r.2]
def dcW (cs : List Sc) : Option Row :=
  if cs.length = 40 then
    match decN 5 dcR 8 cs with
    | some l => if h : l.length = 8 then some ⟨l, h⟩ else none
    | none => none
  else none
theorem dcW_e (r : Row) : dcW (rowC r) = some r := by
  unfold dcW
  rw [if_pos (rowC_l r)]
  have := decN_enc encR_l dcR_e r.1
  rw [r.2] at this
  unfold rowC
  rw [this]
  simp only [r.2, dite_true]
theorem dcW_d (cs : List Sc) (r : Row) (h : dcW cs = some r) : cs = rowC r := by
  unfold dcW at h
  split at h
  · rename_i hl
    split at h
    · rename_i l hd
      split at h
      · simp only [Option.some.injEq] at h; subst h
        exact (decN_dec dcR_d 8 cs l (by omega) hd).2
      · simp at h
    · simp at h
  · simp at h
def row0 : Row := ⟨List.replicate 8 rq0, rfl⟩
/-- mail's cells -/
def mlC (n : Int) (B : List Row) : List Sc := .i n :: B.flatMap rowC
theorem mlC_len (n : Int) {B : List Row} (h : B.length = 8) : (mlC n B).length = 321 := by unfold mlC; rw [List.length_cons, fm_len rowC_l, h]
def mlD : AObj → Option (Int × List Row)
  | .own (.i n :: cs) => if cs.length = 8 * 40 then (decN 40 dcW 8 cs).map fun B => (n, B) else none
  | _ => none
theorem mlD_of {n : Int} {B : List Row} (h : B.length = 8) : mlD (.own (mlC n B)) = some (n, B) := by
  unfold mlC mlD
  have := decN_enc rowC_l dcW_e B
  rw [h] at this
  simp only [fm_len rowC_l, h, if_true, this, Option.map_some]
theorem mlD_inv {o : AObj} {n : Int} {B : List Row} (h : mlD o = some (n, B)) : o = .own (mlC n B) ∧ B.length = 8 := by
  unfold mlD at h
  split at h
  · split at h
    · rename_i hc
      simp only [Option.map_eq_some_iff, Prod.mk.injEq] at h
      obtain ⟨B', h1, rfl, rfl⟩ := h
      obtain ⟨h2, h3⟩ := decN_dec dcW_d 8 _ _ hc h1
      exact ⟨by rw [h3]; rfl, h2⟩
    · simp at h
  · simp at h
def slotR (B : List Row) (t f : Nat) : Rq := match B[t]? with
  | some r => (r.1[f]?).getD rq0
  | none => rq0
def setR (B : List Row) (t f : Nat) (q : Rq) : List Row := match B[t]? with
  | some r => B.set t ⟨r.1.set f q, by rw [List.length_set]; exact r.2⟩
  | none => B
theorem slot_rd {n : Int} {B : List Row} (hB : B.length = 8) {t f : Nat} (ht : t < 8) (hf : f < 8) : ((mlC n B).drop (1 + t * 40 + f * 5)).take 5 = encR (slotR B t f) := by
  obtain ⟨r, hr⟩ : ∃ r, B[t]? = some r := ⟨_, List.getElem?_eq_getElem (by omega)⟩
  obtain ⟨q, hq⟩ : ∃ q, r.1[f]? = some q := ⟨_, List.getElem?_eq_getElem (by rw [r.2]; omega)⟩
  obtain ⟨P, Q, e1, e2, _⟩ := fm_split rowC_l hr
  unfold mlC
  rw [show 1 + t * 40 + f * 5 = (t * 40 + f * 5) + 1 by omega, List.drop_succ_cons, e1, ← e2, splice (by rw [rowC_l]; omega)]
  unfold rowC
  rw [fm_get encR_l hq]
  unfold slotR; rw [hr]; simp only [hq, Option.getD_some]
theorem slot_wr {n : Int} {B : List Row} (hB : B.length = 8) {t f : Nat} (ht : t < 8) (hf : f < 8) (q : Rq) : (mlC n B).take (1 + t * 40 + f * 5) ++ encR q ++ (mlC n B).drop (1 + t * 40 + f * 5 + 5) = mlC n (setR B t f q) := by
  obtain ⟨r, hr⟩ : ∃ r, B[t]? = some r := ⟨_, List.getElem?_eq_getElem (by omega)⟩
  obtain ⟨q0, hq⟩ : ∃ q, r.1[f]? = some q := ⟨_, List.getElem?_eq_getElem (by rw [r.2]; omega)⟩
  obtain ⟨P, Q, e1, e2, e3⟩ := fm_split rowC_l hr
  obtain ⟨P', Q', g1, g2, g3⟩ := fm_split encR_l hq
  unfold mlC setR
  rw [hr]
  simp only
  rw [e3, e1, show 1 + t * 40 + f * 5 = (t * 40 + f * 5) + 1 by omega, List.take_succ_cons, show (t * 40 + f * 5) + 1 + 5 = (t * 40 + f * 5 + (encR q).length) + 1 by rw [encR_l], List.drop_succ_cons, List.cons_append, List.cons_append]
  congr 1
  rw [← e2, splice_set (by rw [rowC_l, encR_l]; omega)]
  congr 2
  unfold rowC
  simp only
  rw [g3, g1]
  have := splice_set (P := P') (M := encR q0) (Q := Q') (l := encR q) (o := 0) (by simp [encR_l])
  rw [Nat.add_zero] at this
  rw [← g2, this]
  simp [encR]
theorem row_rd {n : Int} {B : List Row} (hB : B.length = 8) {t : Nat} (ht : t < 8) {r : Row} (hr : B[t]? = some r) : ((mlC n B).drop (1 + t * 40)).take 40 = rowC r := by
  unfold mlC
  rw [show 1 + t * 40 = (t * 40) + 1 by omega, List.drop_succ_cons, fm_get rowC_l hr]
theorem row_wr {n : Int} {B : List Row} (hB : B.length = 8) {t : Nat} (ht : t < 8) (r : Row) : (mlC n B).take (1 + t * 40) ++ rowC r ++ (mlC n B).drop (1 + t * 40 + 40) = mlC n (B.set t r) := by
  obtain ⟨r0, hr⟩ : ∃ r, B[t]? = some r := ⟨_, List.getElem?_eq_getElem (by omega)⟩
  obtain ⟨P, Q, e1, e2, e3⟩ := fm_split rowC_l hr
  unfold mlC
  rw [e3, e1, show 1 + t * 40 = (t * 40) + 1 by omega, List.take_succ_cons, show t * 40 + 1 + 40 = (t * 40 + 40) + 1 by omega, List.drop_succ_cons, List.cons_append, List.cons_append]
  congr 1
  have := splice_set (P := P) (M := rowC r0) (Q := Q) (l := rowC r) (o := 0) (by simp [rowC_l])
  rw [Nat.add_zero, rowC_l] at this
  rw [← e2, this]
  rw [List.take_zero, List.nil_append, Nat.zero_add, List.drop_of_length_le (by rw [rowC_l]; omega), List.append_nil]
theorem setR_len (B : List Row) (t f : Nat) (q : Rq) : (setR B t f q).length = B.length := by unfold setR; split <;> simp
theorem encR_pf (r : Rq) : (encR r).all Sc.pf = true := rfl
theorem mlC_bel (n : Int) (B : List Row) (m : Nat) : (mlC n B).all (Sc.bel m) = true := by
  unfold mlC
  rw [List.all_cons]
  simp only [Sc.bel, Bool.true_and]
  rw [List.all_flatMap]
  exact List.all_eq_true.2 fun r _ => by unfold rowC; rw [List.all_flatMap]; exact List.all_eq_true.2 fun _ _ => rfl
theorem rowC_one (r : Row) : (rowC r).all Sc.one = true := by unfold rowC; rw [List.all_flatMap]; exact List.all_eq_true.2 fun _ _ => rfl

def plainR (r : Rq) : Rq := ⟨r.s, r.v, r.d, if r.v = true then r.a else 0#64, if r.d = true then r.i else 0⟩
def s_mplain (args : List AV) : Option AV :=
  match args with
  | [.g [.b s, .b v, .b d, .u a, .i i]] => some (.g (encR (plainR ⟨s, v, d, a, i⟩)))
  | _ => none
theorem s_mplain_eq {s v d a i} : s_mplain [.g [.b s, .b v, .b d, .u a, .i i]] = some (.g (encR (plainR ⟨s, v, d, a, i⟩))) := rfl
set_option maxRecDepth 100000 in
set_option maxHeartbeats 2000000 in
theorem ok_mplain : PuOk Tryz.prog 118 s_mplain := by
  refine pu_ok (tab := []) hmix TabOk.nil Tryz.func118 rfl Tryz.results118 Tryz.ntmps118 (by kernel_rfl) (by kernel_rfl) ?_
  intro args v h
  unfold s_mplain at h
  split at h
  · rename_i s v d a i
    simp only [Option.some.injEq] at h; subst h
    refine ⟨by simp only [List.length_cons, List.length_nil]; decide, rfl, rfl, ?_⟩
    cases v <;> cases d <;> (try simp (config := { maxSteps := 10000000 }) only [go_sem, seval, encR, plainR]; repeat (simp (disch := omega) only [w64_d, ipos, ineg, dpos, dneg]; try simp (config := { maxSteps := 10000000 }) only [go_sem, seval, encR, plainR]))
  · simp at h
def eqR (a b : Rq) : Bool := (a.s == b.s) && ((a.v == b.v) && ((a.d == b.d) && (decide (a.a = b.a) && decide (a.i = b.i))))
theorem eqR_iff {a b : Rq} : (eqR a b = true) = (a = b) := by
  apply propext
  cases a; cases b
  simp [eqR, Rq.mk.injEq]
def mergeR (o r : Rq) : Rq := if o.s = false ∨ eqR o (plainR r) = true then plainR r else ⟨true, false, false, 0#64, 0⟩
def s_mmerge (args : List AV) : Option AV :=
  match args with
  | [.g [.b os, .b ov, .b od, .u oa, .i oi], .g [.b s, .b v, .b d, .u a, .i i]] => some (.g (encR (mergeR ⟨os, ov, od, oa, oi⟩ ⟨s, v, d, a, i⟩)))
  | _ => none
theorem s_mmerge_eq {os ov od oa oi s v d a i} : s_mmerge [.g [.b os, .b ov, .b od, .u oa, .i oi], .g [.b s, .b v, .b d, .u a, .i i]] = some (.g (encR (mergeR ⟨os, ov, od, oa, oi⟩ ⟨s, v, d, a, i⟩))) := rfl
set_option maxRecDepth 100000 in
set_option maxHeartbeats 2000000 in
theorem ok_mmerge : PuOk Tryz.prog 73 s_mmerge := by
  refine pu_ok (tab := [(118, .pu s_mplain)]) hmix (TabOk.cons (e := .pu s_mplain) ok_mplain TabOk.nil) Tryz.func73 rfl Tryz.results73 Tryz.ntmps73 (by kernel_rfl) (by kernel_rfl) ?_
  intro args v h
  unfold s_mmerge at h
  split at h
  · rename_i os ov od oa oi s v d a i
    simp only [Option.some.injEq] at h; subst h
    refine ⟨by simp only [List.length_cons, List.length_nil]; decide, rfl, rfl, ?_⟩
    generalize hp : plainR ⟨s, v, d, a, i⟩ = p
    obtain ⟨ps, pv, pd, pa, pi⟩ := p
    cases os
    · have e0 : mergeR ⟨false, ov, od, oa, oi⟩ ⟨s, v, d, a, i⟩ = ⟨ps, pv, pd, pa, pi⟩ := by simp [mergeR, hp]
      rw [e0]
      (try simp (config := { maxSteps := 10000000 }) only [go_sem, seval, s_mplain_eq, hp, encR]; repeat (simp (disch := omega) only [w64_d, ipos, ineg, dpos, dneg]; try simp (config := { maxSteps := 10000000 }) only [go_sem, seval, s_mplain_eq, hp, encR]))
    · cases he : eqR ⟨true, ov, od, oa, oi⟩ ⟨ps, pv, pd, pa, pi⟩
      · have e0 : mergeR ⟨true, ov, od, oa, oi⟩ ⟨s, v, d, a, i⟩ = ⟨true, false, false, 0#64, 0⟩ := by simp [mergeR, hp, he]
        rw [e0]
        simp only [eqR, Bool.true_beq] at he
        (try simp (config := { maxSteps := 10000000 }) only [go_sem, seval, s_mplain_eq, hp, encR, he]; repeat (simp (disch := omega) only [w64_d, ipos, ineg, dpos, dneg]; try simp (config := { maxSteps := 10000000 }) only [go_sem, seval, s_mplain_eq, hp, encR, he]))
      · have e0 : mergeR ⟨true, ov, od, oa, oi⟩ ⟨s, v, d, a, i⟩ = ⟨ps, pv, pd, pa, pi⟩ := by simp [mergeR, hp, he]
        rw [e0]
        simp only [eqR, Bool.true_beq] at he
        (try simp (config := { maxSteps := 10000000 }) only [go_sem, seval, s_mplain_eq, hp, encR, he]; repeat (simp (disch := omega) only [w64_d, ipos, ineg, dpos, dneg]; try simp (config := { maxSteps := 10000000 }) only [go_sem, seval, s_mplain_eq, hp, encR, he]))
  · simp at h
def inH (n h : Int) : Bool := decide (0 ≤ h) && decide (h < n)
def s_min29 (args : List AV) (H : AH) : Option AV :=
  match args with
  | [.c (.p id 0 0), .c (.i h)] =>
    match mlD (hg H id) with
    | some (n, _) => some (.c (.b (inH n h)))
    | none => none
  | _ => none
theorem s_min29_eq {id : Nat} {h n : Int} {B : List Row} {H : AH} (e : hg H id = .own (mlC n B)) (hB : B.length = 8) : s_min29 [.c (.p id 0 0), .c (.i h)] H = some (.c (.b (inH n h))) := by
  simp only [s_min29, e, mlD_of hB]
set_option maxRecDepth 100000 in
set_option maxHeartbeats 2000000 in
theorem ok_min29 : FpOk Tryz.prog 81 (fun args H => (s_min29 args H).map fun v => (v, H)) := by
  refine fq_ok (s := s_min29) (tab := []) hmix TabOk.nil Tryz.func81 rfl Tryz.results81 Tryz.ntmps81 (by kernel_rfl) (by kernel_rfl) ?_
  intro args H v h hargs hH
  unfold s_min29 at h
  split at h
  · rename_i id h'
    split at h
    · rename_i n B hm
      simp only [Option.some.injEq] at h
      subst h
      obtain ⟨e, hB⟩ := mlD_inv hm
      refine ⟨by simp only [List.length_cons, List.length_nil]; decide, rfl, ?_⟩
      have l := mlC_len n hB
      have g0 : (mlC n B).getD 0 .any = .i n := rfl
      by_cases h1 : 0 ≤ h'
      all_goals (try simp (config := { maxSteps := 10000000 }) only [go_sem, seval, e, l, g0, inH, h1]; repeat (simp (disch := omega) only [w64_d, ipos, ineg, dpos, dneg]; try simp (config := { maxSteps := 10000000 }) only [go_sem, seval, e, l, g0, inH, h1]))
      all_goals exact subH_refl _
    · simp at h
  · simp at h
def mlMay (n hart k h : Int) (rs : Bool) (i : Int) : Bool :=
  if inH n hart = true then
    (if k = 12 then true else
     if k = 13 then (if rs = false then false else if i < 0 then false else if 65535 < i then false else inH n h && !decide (h = hart)) else
     if k = 14 then inH n h && !decide (h = hart) else false)
  else false
def s_mmay (args : List AV) (H : AH) : Option AV :=
  match args with
  | [.c (.p id 0 0), .c (.i hart), .g [.i k, .u _, .u _, .i _, .i _, .i _, .u _, .u _, .b _, .i h, .b rs, .b _, .b _, .u _, .i i, .i _, .u _, .i _, .u _]] =>
    match mlD (hg H id) with
    | some (n, _) => some (.c (.b (mlMay n hart k h rs i)))
    | none => none
  | _ => none
theorem s_mmay_eq {id : Nat} {n hart k h i c z o e1 e3 : Int} {ad nx da ol va e2 e4 : BitVec 64} {li rs rv ra : Bool} {B : List Row} {H : AH} (e : hg H id = .own (mlC n B)) (hB : B.length = 8) :
    s_mmay [.c (.p id 0 0), .c (.i hart), .g [.i k, .u ad, .u nx, .i c, .i z, .i o, .u da, .u ol, .b li, .i h, .b rs, .b rv, .b ra, .u va, .i i, .i e1, .u e2, .i e3, .u e4]] H = some (.c (.b (mlMay n hart k h rs i))) := by
  simp only [s_mmay, e, mlD_of hB]
set_option maxRecDepth 100000 in
set_option maxHeartbeats 2000000 in
theorem ok_mmay : FpOk Tryz.prog 43 (fun args H => (s_mmay args H).map fun v => (v, H)) := by
  refine fq_ok (s := s_mmay) (tab := [(81, .fq s_min29)]) hmix (TabOk.cons (e := .fq s_min29) ok_min29 TabOk.nil) Tryz.func43 rfl Tryz.results43 Tryz.ntmps43 (by kernel_rfl) (by kernel_rfl) ?_
  intro args H v h hargs hH
  unfold s_mmay at h
  split at h
  · rename_i id hart k ad nx c z o da ol li h' rs rv ra va i e1 e2 e3 e4
    split at h
    · rename_i n B hm
      simp only [Option.some.injEq] at h
      subst h
      obtain ⟨e, hB⟩ := mlD_inv hm
      have lid : id < H.length := hg_lt (by rw [e]; rfl)
      have q : ∀ X x, s_min29 [.c (.p id 0 0), .c (.i x)] (H ++ X) = some (.c (.b (inH n x))) := fun X x => s_min29_eq (by rw [hg_lt' lid]; exact e) hB
      refine ⟨by simp only [List.length_cons, List.length_nil]; decide, rfl, ?_⟩
      cases h0 : inH n hart
      · (try simp (config := { maxSteps := 10000000 }) only [go_sem, seval, q, h0, mlMay]; repeat (simp (disch := omega) only [w64_d, ipos, ineg, dpos, dneg]; try simp (config := { maxSteps := 10000000 }) only [go_sem, seval, q, h0, mlMay]))
        exact subH_app _ _
      by_cases k1 : k = 12
      · (try simp (config := { maxSteps := 10000000 }) only [go_sem, seval, q, h0, mlMay, k1]; repeat (simp (disch := omega) only [w64_d, ipos, ineg, dpos, dneg]; try simp (config := { maxSteps := 10000000 }) only [go_sem, seval, q, h0, mlMay, k1]))
        exact subH_app _ _
      by_cases k2 : k = 13
      · cases rs
        · (try simp (config := { maxSteps := 10000000 }) only [go_sem, seval, q, h0, mlMay, k1, k2]; repeat (simp (disch := omega) only [w64_d, ipos, ineg, dpos, dneg]; try simp (config := { maxSteps := 10000000 }) only [go_sem, seval, q, h0, mlMay, k1, k2]))
          exact subH_app _ _
        by_cases i1 : i < 0
        · (try simp (config := { maxSteps := 10000000 }) only [go_sem, seval, q, h0, mlMay, k1, k2, i1]; repeat (simp (disch := omega) only [w64_d, ipos, ineg, dpos, dneg]; try simp (config := { maxSteps := 10000000 }) only [go_sem, seval, q, h0, mlMay, k1, k2, i1]))
          exact subH_app _ _
        by_cases i2 : 65535 < i
        · (try simp (config := { maxSteps := 10000000 }) only [go_sem, seval, q, h0, mlMay, k1, k2, i1, i2]; repeat (simp (disch := omega) only [w64_d, ipos, ineg, dpos, dneg]; try simp (config := { maxSteps := 10000000 }) only [go_sem, seval, q, h0, mlMay, k1, k2, i1, i2]))
          exact subH_app _ _
        cases h1 : inH n h'
        all_goals (try simp (config := { maxSteps := 10000000 }) only [go_sem, seval, q, h0, mlMay, k1, k2, i1, i2, h1]; repeat (simp (disch := omega) only [w64_d, ipos, ineg, dpos, dneg]; try simp (config := { maxSteps := 10000000 }) only [go_sem, seval, q, h0, mlMay, k1, k2, i1, i2, h1]))
        all_goals exact subH_app _ _
      by_cases k3 : k = 14
      · cases h1 : inH n h'
        all_goals (try simp (config := { maxSteps := 10000000 }) only [go_sem, seval, q, h0, mlMay, k1, k2, k3, h1]; repeat (simp (disch := omega) only [w64_d, ipos, ineg, dpos, dneg]; try simp (config := { maxSteps := 10000000 }) only [go_sem, seval, q, h0, mlMay, k1, k2, k3, h1]))
        all_goals exact subH_app _ _
      · (try simp (config := { maxSteps := 10000000 }) only [go_sem, seval, q, h0, mlMay, k1, k2, k3]; repeat (simp (disch := omega) only [w64_d, ipos, ineg, dpos, dneg]; try simp (config := { maxSteps := 10000000 }) only [go_sem, seval, q, h0, mlMay, k1, k2, k3]))
        exact subH_app _ _
    · simp at h
  · simp at h

end
end Go.Proofs.YtcbhelkafelofaaGreat
