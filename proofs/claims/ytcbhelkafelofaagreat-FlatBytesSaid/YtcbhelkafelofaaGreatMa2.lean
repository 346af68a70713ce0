/- Layer 29: what harts ask of mail. -/
import Derived.Test.YtcbhelkafelofaaGreatMa1
namespace Go.Proofs.YtcbhelkafelofaaGreat
open Go.Am
set_option linter.unusedSimpArgs false
set_option linter.unusedVariables false
noncomputable section

def Z8 : List Row := List.replicate 8 row0
theorem Z8_len : Z8.length = 8 := rfl
theorem rowC_0 : rowC row0 = [.b false, .b false, .b false, .u 0#64, .i 0, .b false, .b false, .b false, .u 0#64, .i 0, .b false, .b false, .b false, .u 0#64, .i 0, .b false, .b false, .b false, .u 0#64, .i 0, .b false, .b false, .b false, .u 0#64, .i 0, .b false, .b false, .b false, .u 0#64, .i 0, .b false, .b false, .b false, .u 0#64, .i 0, .b false, .b false, .b false, .u 0#64, .i 0] := rfl
set_option maxRecDepth 100000 in
theorem zMail : zT Tryz.prog 87 = some (mlC 0 Z8) := by kernel_rfl
def s_mnew (args : List AV) : Option AV :=
  match args with
  | [.c (.i n)] => some (.g (mlC (if 1 ≤ n ∧ n ≤ 8 then n else 0) Z8))
  | _ => none
theorem s_mnew_eq {n} : s_mnew [.c (.i n)] = some (.g (mlC (if 1 ≤ n ∧ n ≤ 8 then n else 0) Z8)) := rfl
set_option maxRecDepth 100000 in
set_option maxHeartbeats 2000000 in
theorem ok_mnew : PuOk Tryz.prog 46 s_mnew := by
  refine pu_ok (tab := []) hmix TabOk.nil Tryz.func46 rfl Tryz.results46 Tryz.ntmps46 (by kernel_rfl) (by kernel_rfl) ?_
  intro args v h
  unfold s_mnew at h
  split at h
  · rename_i n
    simp only [Option.some.injEq] at h; subst h
    have pz : ∀ m, (mlC m Z8).all Sc.pf = true := fun m => rfl
    refine ⟨by simp only [List.length_cons, List.length_nil]; decide, by first | rfl | simp only [List.all_cons, List.all_nil, AV.pf, Sc.pf, Bool.and_true, *], by first | rfl | simp only [List.all_cons, List.all_nil, AV.pf, Sc.pf, Bool.and_true, *], ?_⟩
    have l0 := fun m => mlC_len m Z8_len
    have d1 : ∀ m, (mlC m Z8).drop 321 = [] := fun m => List.drop_of_length_le (by rw [l0]; omega)
    have d2 : ∀ m, (mlC m Z8).drop 1 = Z8.flatMap rowC := fun m => rfl
    have d3 : ∀ m, (mlC m Z8).all Sc.one = true := fun m => rfl
    have d4 : ∀ m, .i m :: Z8.flatMap rowC = mlC m Z8 := fun m => rfl
    have d5 : ∀ m, (mlC m Z8).take 321 = mlC m Z8 := fun m => List.take_of_length_le (by rw [l0]; omega)
    by_cases h1 : n < 1
    · have e : (if 1 ≤ n ∧ n ≤ 8 then n else 0) = 0 := if_neg (by omega)
      (try simp (config := { maxSteps := 10000000 }) only [go_sem, seval, h1, e, zMail, l0, d1, d2, d3, d4, d5]; repeat (simp (disch := omega) only [w64_d, ipos, ineg, dpos, dneg]; try simp (config := { maxSteps := 10000000 }) only [go_sem, seval, h1, e, zMail, l0, d1, d2, d3, d4, d5]))
    by_cases h2 : 8 < n
    · have e : (if 1 ≤ n ∧ n ≤ 8 then n else 0) = 0 := if_neg (by omega)
      (try simp (config := { maxSteps := 10000000 }) only [go_sem, seval, h1, h2, e, zMail, l0, d1, d2, d3, d4, d5]; repeat (simp (disch := omega) only [w64_d, ipos, ineg, dpos, dneg]; try simp (config := { maxSteps := 10000000 }) only [go_sem, seval, h1, h2, e, zMail, l0, d1, d2, d3, d4, d5]))
    · have e : (if 1 ≤ n ∧ n ≤ 8 then n else 0) = n := if_pos (by omega)
      (try simp (config := { maxSteps := 10000000 }) only [go_sem, seval, h1, h2, e, zMail, l0, d1, d2, d3, d4, d5]; repeat (simp (disch := omega) only [w64_d, ipos, ineg, dpos, dneg]; try simp (config := { maxSteps := 10000000 }) only [go_sem, seval, h1, h2, e, zMail, l0, d1, d2, d3, d4, d5]))
  · simp at h
def ansC (d : BitVec 64) (g : Bool) (r : Row) : List Sc := .u d :: .b g :: rowC r
def rowAt (B : List Row) (t : Nat) : Row := (B[t]?).getD row0
theorem hgS {H X : AH} {id n : Nat} {o : AObj} : hg (H.set id o ++ X) (H.length + n) = hg X n := by
  have := hg_len_add (H := H.set id o) (X := X) (n := n)
  rwa [List.length_set] at this
theorem hgS0 {H X : AH} {id : Nat} {o : AObj} : hg (H.set id o ++ X) H.length = hg X 0 := hgS (n := 0)
theorem stS {H X : AH} {id n : Nat} {o o' : AObj} : (H.set id o ++ X).set (H.length + n) o' = H.set id o ++ X.set n o' := by
  have := set_len_add (H := H.set id o) (X := X) (n := n) (o := o')
  rwa [List.length_set] at this
/-- what an ask leaves, and its answer -/
def doB (n : Int) (B : List Row) (hart k h : Int) (q : Rq) : List Row :=
  if mlMay n hart k h q.s q.i = true then
    (if k = 13 then setR B h.toNat hart.toNat (mergeR (slotR B h.toNat hart.toNat) q) else if k = 12 then B.set hart.toNat row0 else B)
  else B
def doA (n : Int) (B : List Row) (hart k h : Int) (q : Rq) : List Sc :=
  if mlMay n hart k h q.s q.i = true then
    (if k = 13 then ansC 0#64 false row0 else if k = 12 then ansC 0#64 false (rowAt B hart.toNat) else ansC 0#64 (eqR (slotR B h.toNat hart.toNat) rq0) row0)
  else ansC 0#64 false row0
theorem doB_len {n : Int} {B : List Row} {hart k h : Int} {q : Rq} : (doB n B hart k h q).length = B.length := by
  unfold doB
  split
  · split
    · exact setR_len _ _ _ _
    · split
      · simp
      · rfl
  · rfl
theorem doA_pf (n : Int) (B : List Row) (hart k h : Int) (q : Rq) (m : Nat) : (doA n B hart k h q).all (Sc.bel m) = true := by
  have : ∀ d g r, (ansC d g r).all (Sc.bel m) = true := fun d g r => by
    unfold ansC rowC
    rw [List.all_cons, List.all_cons, List.all_flatMap]
    simp only [Sc.bel, Bool.true_and]
    exact List.all_eq_true.2 fun _ _ => rfl
  unfold doA
  repeat' split
  all_goals exact this _ _ _
def s_mdo (args : List AV) (H : AH) : Option (AV × AH) :=
  match args with
  | [.c (.p id 0 0), .c (.i hart), .g [.i k, .u _, .u _, .i _, .i _, .i _, .u _, .u _, .b _, .i h, .b rs, .b rv, .b ra, .u va, .i i, .i _, .u _, .i _, .u _]] =>
    match mlD (hg H id) with
    | some (n, B) => if n ≤ 8 then some (.t [.g (doA n B hart k h ⟨rs, rv, ra, va, i⟩), .c (.b (mlMay n hart k h rs i))], H.set id (.own (mlC n (doB n B hart k h ⟨rs, rv, ra, va, i⟩)))) else none
    | none => none
  | _ => none
theorem s_mdo_eq {id : Nat} {n hart k h i c z o e1 e3 : Int} {ad nx da ol va e2 e4 : BitVec 64} {li rs rv ra : Bool} {B : List Row} {H : AH} (e : hg H id = .own (mlC n B)) (hB : B.length = 8) (hn : n ≤ 8) :
    s_mdo [.c (.p id 0 0), .c (.i hart), .g [.i k, .u ad, .u nx, .i c, .i z, .i o, .u da, .u ol, .b li, .i h, .b rs, .b rv, .b ra, .u va, .i i, .i e1, .u e2, .i e3, .u e4]] H =
      some (.t [.g (doA n B hart k h ⟨rs, rv, ra, va, i⟩), .c (.b (mlMay n hart k h rs i))], H.set id (.own (mlC n (doB n B hart k h ⟨rs, rv, ra, va, i⟩)))) := by
  simp only [s_mdo, e, mlD_of hB, hn, if_true]
theorem len_mdo (args : List AV) (H : AH) (v : AV) (H1 : AH) (h : s_mdo args H = some (v, H1)) : H.length ≤ H1.length := by
  unfold s_mdo at h
  split at h
  · split at h
    · split at h
      · simp only [Option.some.injEq, Prod.mk.injEq] at h; rw [← h.2]; simp
      · simp at h
    · simp at h
  · simp at h
theorem may_in {n hart k h i : Int} {rs : Bool} (hm : mlMay n hart k h rs i = true) : inH n hart = true ∧ (k = 12 ∨ ((k = 13 ∨ k = 14) ∧ inH n h = true)) := by
  unfold mlMay at hm
  split at hm
  · rename_i h0
    refine ⟨h0, ?_⟩
    split at hm
    · exact .inl ‹_›
    · split at hm
      · rename_i h13
        refine .inr ⟨.inl h13, ?_⟩
        repeat' split at hm
        all_goals first | (simp at hm; done) | (simp only [Bool.and_eq_true] at hm; exact hm.1)
      · split at hm
        · rename_i h14
          simp only [Bool.and_eq_true] at hm
          exact .inr ⟨.inr h14, hm.1⟩
        · simp at hm
  · simp at hm
set_option maxHeartbeats 8000000 in
set_option maxRecDepth 100000 in
set_option maxHeartbeats 2000000 in
theorem ok_mdo : FpOk Tryz.prog 35 s_mdo := by
  refine fp_ok (s := s_mdo) (tab := [(43, .fq s_mmay), (73, .pu s_mmerge)]) hmix (TabOk.cons (e := .fq s_mmay) ok_mmay (TabOk.cons (e := .pu s_mmerge) ok_mmerge TabOk.nil)) Tryz.func35 rfl Tryz.results35 Tryz.ntmps35 (by kernel_rfl) (by kernel_rfl) len_mdo ?_
  intro args H v H1 h hargs hH
  unfold s_mdo at h
  split at h
  · rename_i id hart k ad nx c z o da ol li h' rs rv ra va i e1 e2 e3 e4
    split at h
    · rename_i n B hm
      split at h
      · rename_i hn
        simp only [Option.some.injEq, Prod.mk.injEq] at h
        obtain ⟨rfl, rfl⟩ := h
        obtain ⟨e, hB⟩ := mlD_inv hm
        have lid : id < H.length := hg_lt (by rw [e]; rfl)
        have q : ∀ X, s_mmay [.c (.p id 0 0), .c (.i hart), .g [.i k, .u ad, .u nx, .i c, .i z, .i o, .u da, .u ol, .b li, .i h', .b rs, .b rv, .b ra, .u va, .i i, .i e1, .u e2, .i e3, .u e4]] (H ++ X) = some (.c (.b (mlMay n hart k h' rs i))) := fun X => s_mmay_eq (by rw [hg_lt' lid]; exact e) hB
        have gx : ∀ X, hg (H ++ X) id = .own (mlC n B) := fun X => by rw [hg_lt' lid]; exact e
        have sx : ∀ X o, (H ++ X).set id o = H.set id o ++ X := fun X o => List.set_append_left _ _ lid
        have bx : ∀ B', belH (H.set id (.own (mlC n B'))) = true := fun B' => bel_set hH (mlC_bel _ _ _)
        have l0 := mlC_len n hB
        refine ⟨by simp only [List.length_cons, List.length_nil]; decide, ?_⟩
        have fin : ∀ (v : AV) (B' : List Row) (X : AH), v.bel H.length = true → Wk H.length [(0, v)] (H.set id (.own (mlC n B')) ++ X) ([(0, v)], H.set id (.own (mlC n B'))) := fun v B' X hv =>
          Wk.wk (by simp) (by simp [Am.get]) (by simp only [List.all_cons, List.all_nil, Bool.and_true, List.length_set]; exact hv) (subH_app _ _) (bx B')
        have vb : (AV.t [.g (doA n B hart k h' ⟨rs, rv, ra, va, i⟩), .c (.b (mlMay n hart k h' rs i))]).bel H.length = true := by
          simp only [AV.bel, List.all_cons, List.all_nil, Bool.and_true, doA_pf, Sc.bel]
        cases hmm : mlMay n hart k h' rs i
        · have r1 : doA n B hart k h' ⟨rs, rv, ra, va, i⟩ = ansC 0#64 false row0 := by unfold doA; rw [if_neg (by simp [hmm])]
          have r2 : doB n B hart k h' ⟨rs, rv, ra, va, i⟩ = B := by unfold doB; rw [if_neg (by simp [hmm])]
          rw [hmm] at vb
          have hs : H.set id (.own (mlC n B)) = H := set_self e lid
          rw [r1] at vb ⊢
          rw [r2]
          (try simp (config := { maxSteps := 10000000 }) only [go_sem, seval, q, hmm]; repeat (simp (disch := omega) only [w64_d, ipos, ineg, dpos, dneg]; try simp (config := { maxSteps := 10000000 }) only [go_sem, seval, q, hmm]))
          refine ⟨_, rfl, ?_⟩
          have := fin _ B [.own [.i k, .u ad, .u nx, .i c, .i z, .i o, .u da, .u ol, .b li, .i h', .b rs, .b rv, .b ra, .u va, .i i, .i e1, .u e2, .i e3, .u e4], .own (ansC 0#64 false row0)] vb
          rw [hs] at this ⊢
          exact this
        · obtain ⟨m1, m2⟩ := may_in hmm
          simp only [inH, Bool.and_eq_true, decide_eq_true_eq] at m1
          obtain ⟨f, rfl⟩ := Int.eq_ofNat_of_zero_le m1.1
          have hf : f < 8 := by omega
          have sn : ∀ X, hg (H.set id (.own (mlC n B)) ++ X) id = .own (mlC n B) := fun X => by rw [set_self e lid]; exact gx X
          rw [hmm] at vb
          have nf : (0 : Int) ≤ (f : Int) := by omega
          have nf8 : (f : Int) < 8 := by omega
          have nf7 : 1 + f * 40 + 40 ≤ 321 := by omega
          rcases m2 with k12 | ⟨k13 | k14, m3⟩
          · obtain ⟨r, hr⟩ : ∃ r, B[f]? = some r := ⟨_, List.getElem?_eq_getElem (by omega)⟩
            have r1 : doA n B f k h' ⟨rs, rv, ra, va, i⟩ = ansC 0#64 false r := by
              unfold doA rowAt; rw [if_pos (by simp only [hmm]), if_neg (by omega), if_pos k12, Int.toNat_natCast, hr]; rfl
            have r2 : doB n B f k h' ⟨rs, rv, ra, va, i⟩ = B.set f row0 := by
              unfold doB; rw [if_pos (by simp only [hmm]), if_neg (by omega), if_pos k12, Int.toNat_natCast]
            rw [r1] at vb ⊢
            rw [r2]
            have g1 := row_rd (n := n) hB hf hr
            have g2 := row_wr (n := n) hB hf row0
            rw [rowC_0] at g2
            simp only [List.append_assoc, List.cons_append, List.nil_append] at g2
            have g3 := rowC_l r
            have g4 := rowC_one r
            have g5 : (rowC r).take 40 = rowC r := List.take_of_length_le (by omega)
            subst k12
            (try simp (config := { maxSteps := 10000000 }) only [go_sem, seval, q, hmm, gx, sx, l0, nf, nf8, nf7, g1, g2, g3, g4, g5, hgS, stS]; repeat (simp (disch := omega) only [w64_d, ipos, ineg, dpos, dneg]; try simp (config := { maxSteps := 10000000 }) only [go_sem, seval, q, hmm, gx, sx, l0, nf, nf8, nf7, g1, g2, g3, g4, g5, hgS, stS]))
            refine ⟨_, rfl, ?_⟩
            exact fin _ (B.set f row0) _ vb
          · simp only [inH, Bool.and_eq_true, decide_eq_true_eq] at m3
            obtain ⟨g, rfl⟩ := Int.eq_ofNat_of_zero_le m3.1
            have hg8 : g < 8 := by omega
            have r1 : doA n B f k g ⟨rs, rv, ra, va, i⟩ = ansC 0#64 false row0 := by
              unfold doA; rw [if_pos (by simp only [hmm]), if_pos k13]
            have r2 : doB n B f k g ⟨rs, rv, ra, va, i⟩ = setR B g f (mergeR (slotR B g f) ⟨rs, rv, ra, va, i⟩) := by
              unfold doB; rw [if_pos (by simp only [hmm]), if_pos k13, Int.toNat_natCast, Int.toNat_natCast]
            rw [r1] at vb ⊢
            rw [r2]
            have g1 := slot_rd (n := n) hB hg8 hf
            have g2 := slot_wr (n := n) hB hg8 hf (mergeR (slotR B g f) ⟨rs, rv, ra, va, i⟩)
            simp only [List.append_assoc] at g2
            have ng : (0 : Int) ≤ (g : Int) := by omega
            have ng8 : (g : Int) < 8 := by omega
            have ng7 : 1 + g * 40 + f * 5 + 5 ≤ 321 := by omega
            generalize hsl : slotR B g f = sl at g1 g2
            obtain ⟨os, ov, od, oa, oi⟩ := sl
            have es : encR ⟨os, ov, od, oa, oi⟩ = [.b os, .b ov, .b od, .u oa, .i oi] := rfl
            rw [es] at g1
            have g6 : ∀ m, (encR m).all Sc.one = true := fun m => rfl
            subst k13
            (try simp (config := { maxSteps := 10000000 }) only [go_sem, seval, q, hmm, gx, sx, l0, nf, nf8, nf7, ng, ng8, ng7, g1, g2, g6, encR_l, hgS, stS, s_mmerge_eq]; repeat (simp (disch := omega) only [w64_d, ipos, ineg, dpos, dneg]; try simp (config := { maxSteps := 10000000 }) only [go_sem, seval, q, hmm, gx, sx, l0, nf, nf8, nf7, ng, ng8, ng7, g1, g2, g6, encR_l, hgS, stS, s_mmerge_eq]))
            refine ⟨?_, ?_⟩
            · repeat' apply And.intro
              all_goals first | decide | (exact fun _ => by decide) | (intro hx; exfalso; omega) | exact fun hx => hx.2.elim
            refine ⟨_, rfl, ?_⟩
            exact fin _ _ _ vb
          · simp only [inH, Bool.and_eq_true, decide_eq_true_eq] at m3
            obtain ⟨g, rfl⟩ := Int.eq_ofNat_of_zero_le m3.1
            have hg8 : g < 8 := by omega
            have r1 : doA n B f k g ⟨rs, rv, ra, va, i⟩ = ansC 0#64 (eqR (slotR B g f) rq0) row0 := by
              unfold doA; rw [if_pos (by simp only [hmm]), if_neg (by omega), if_neg (by omega), Int.toNat_natCast, Int.toNat_natCast]
            have r2 : doB n B f k g ⟨rs, rv, ra, va, i⟩ = B := by
              unfold doB; rw [if_pos (by simp only [hmm]), if_neg (by omega), if_neg (by omega)]
            have hs : H.set id (.own (mlC n B)) = H := set_self e lid
            rw [r1] at vb ⊢
            rw [r2, hs]
            have g1 := slot_rd (n := n) hB hg8 hf
            have ng : (0 : Int) ≤ (g : Int) := by omega
            have ng8 : (g : Int) < 8 := by omega
            have ng7 : 1 + g * 40 + f * 5 + 5 ≤ 321 := by omega
            generalize hsl : slotR B g f = sl at g1 vb ⊢
            obtain ⟨os, ov, od, oa, oi⟩ := sl
            have es : encR ⟨os, ov, od, oa, oi⟩ = [.b os, .b ov, .b od, .u oa, .i oi] := rfl
            rw [es] at g1
            subst k14
            (try simp (config := { maxSteps := 10000000 }) only [go_sem, seval, q, hmm, gx, sx, l0, nf, nf8, nf7, ng, ng8, ng7, g1]; repeat (simp (disch := omega) only [w64_d, ipos, ineg, dpos, dneg]; try simp (config := { maxSteps := 10000000 }) only [go_sem, seval, q, hmm, gx, sx, l0, nf, nf8, nf7, ng, ng8, ng7, g1]))
            refine ⟨?_, ?_⟩
            · repeat' apply And.intro
              all_goals first | decide | (exact fun _ => by decide) | (intro hx; exfalso; omega) | exact fun hx => hx.2.elim
            have := fin _ B [.own [.i 14, .u ad, .u nx, .i c, .i z, .i o, .u da, .u ol, .b li, .i g, .b rs, .b rv, .b ra, .u va, .i i, .i e1, .u e2, .i e3, .u e4], .own (ansC 0#64 (eqR ⟨os, ov, od, oa, oi⟩ rq0) row0), .own (ansC 0#64 (eqR ⟨os, ov, od, oa, oi⟩ rq0) row0)] vb
            rw [hs] at this
            exact ⟨_, rfl, this⟩
      · simp at h
    · simp at h
  · simp at h

end
end Go.Proofs.YtcbhelkafelofaaGreat
