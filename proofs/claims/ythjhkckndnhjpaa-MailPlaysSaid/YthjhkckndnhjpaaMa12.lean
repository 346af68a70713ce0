/- The law MailPlays. -/
import Derived.Test.YthjhkckndnhjpaaMa11
namespace Go.Proofs.Ythjhkckndnhjpaa
open Go.Am
set_option linter.unusedSimpArgs false
set_option linter.unusedVariables false
noncomputable section

structure Dd where
  ht : Int
  k : Int
  ad : BitVec 64
  nx : BitVec 64
  c : Int
  z : Int
  o : Int
  da : BitVec 64
  ol : BitVec 64
  li : Bool
  h : Int
  q : Rq
  e1 : Int
  e2 : BitVec 64
  e3 : Int
  e4 : BitVec 64
def askC (d : Dd) : List Sc := [.i d.k, .u d.ad, .u d.nx, .i d.c, .i d.z, .i d.o, .u d.da, .u d.ol, .b d.li, .i d.h, .b d.q.s, .b d.q.v, .b d.q.d, .u d.q.a, .i d.q.i, .i d.e1, .u d.e2, .i d.e3, .u d.e4]
def encDd (d : Dd) : List Sc := [.i d.ht, .i d.k, .u d.ad, .u d.nx, .i d.c, .i d.z, .i d.o, .u d.da, .u d.ol, .b d.li, .i d.h, .b d.q.s, .b d.q.v, .b d.q.d, .u d.q.a, .i d.q.i, .i d.e1, .u d.e2, .i d.e3, .u d.e4]
def dcDd : List Sc → Option Dd
  | [.i ht, .i k, .u ad, .u nx, .i c, .i z, .i o, .u da, .u ol, .b li, .i h, .b rs, .b rv, .b rd, .u ra, .i ri, .i e1, .u e2, .i e3, .u e4] => some ⟨ht, k, ad, nx, c, z, o, da, ol, li, h, ⟨rs, rv, rd, ra, ri⟩, e1, e2, e3, e4⟩
  | _ => none
theorem dcDd_e (d : Dd) : dcDd (encDd d) = some d := rfl
theorem dcDd_d (cs : List Sc) (d : Dd) (h : dcDd cs = some d) : cs = encDd d := by
  unfold dcDd at h
  split at h
  · simp only [Option.some.injEq] at h; subst h; rfl
  · simp at h
theorem encDd_l (d : Dd) : (encDd d).length = 20 := rfl
theorem doA_is (n : Int) (B : List Row) (hart k h : Int) (q : Rq) : ∃ g r, doA n B hart k h q = ansC 0#64 g r := by
  unfold doA
  repeat' split
  all_goals exact ⟨_, _, rfl⟩
theorem gTans : tagsT Try.prog 12 35 = some (Tg.n :: Tg.q :: (List.replicate 8 [Tg.q, .q, .q, .n, .n]).flatten) := by kernel_rfl
theorem cs_app : ∀ {g1 g2 : List Tg} {l1 l2 : List Sc}, csEq g1 l1 l1 = some true → csEq g2 l2 l2 = some true → csEq (g1 ++ g2) (l1 ++ l2) (l1 ++ l2) = some true
  | [], _, [], _, _, h2 => h2
  | [], _, _ :: _, _, h1, _ => by simp [csEq] at h1
  | _ :: _, _, [], _, h1, _ => by simp [csEq] at h1
  | a :: g, g2, s :: l, l2, h1, h2 => by
    simp only [csEq] at h1
    cases hs : scEq a s s with
    | none => rw [hs] at h1; simp at h1
    | some x =>
      cases hl : csEq g l l with
      | none => rw [hs, hl] at h1; simp at h1
      | some y =>
        rw [hs, hl] at h1
        simp only [Option.some.injEq, Bool.and_eq_true] at h1
        have ih := cs_app (g1 := g) (l1 := l) (by rw [hl, h1.2]) h2
        simp only [List.cons_append, csEq, hs, ih, h1.1]
        rfl
theorem cs_rq (r : Rq) : csEq [Tg.q, .q, .q, .n, .n] (encR r) (encR r) = some true := by
  simp [csEq, scEq, encR]
theorem cs_rows : ∀ l : List Rq, csEq (List.replicate l.length [Tg.q, .q, .q, .n, .n]).flatten (l.flatMap encR) (l.flatMap encR) = some true
  | [] => rfl
  | r :: l => by
    rw [List.length_cons, List.replicate_succ, List.flatten_cons, List.flatMap_cons]
    exact cs_app (cs_rq r) (cs_rows l)
theorem ans_ne (d : BitVec 64) (g : Bool) (r : Row) : abin Try.prog .neq 35 (.g (ansC d g r)) (.g (ansC d g r)) = some (.c (.b false)) := by
  rw [ab_g_neq _ (by kernel_rfl) gTans]
  have h := cs_rows r.1
  rw [r.2] at h
  have : csEq (Tg.n :: Tg.q :: (List.replicate 8 [Tg.q, .q, .q, .n, .n]).flatten) (ansC d g r) (ansC d g r) = some true := by
    unfold ansC rowC
    simp only [csEq, h]
    simp [scEq]
  rw [this]; rfl
def s_mplays (args : List AV) (H : AH) : Option AV :=
  match args with
  | [.c (.i _), .c y] =>
    match slD 20 dcDd H y with
    | some L => if L.length ≤ 9223372036854775807 then some (.c (.b true)) else none
    | none => none
  | _ => none
theorem s_mplays_inv {args : List AV} {H : AH} {v : AV} (h : s_mplays args H = some v) : ∃ n0 y L, args = [.c (.i n0), .c y] ∧ slD 20 dcDd H y = some L ∧ L.length ≤ 9223372036854775807 ∧ v = .c (.b true) := by
  unfold s_mplays at h
  split at h
  · split at h
    · split at h
      · rename_i h1 h2
        simp only [Option.some.injEq] at h
        exact ⟨_, _, _, rfl, h1, h2, h.symm⟩
      · simp at h
    · simp at h
  · simp at h
set_option maxRecDepth 100000 in
set_option maxHeartbeats 16000000 in
set_option maxRecDepth 100000 in
set_option maxHeartbeats 2000000 in
theorem ok_mplays : FpOk Try.prog 4 (fun args H => (s_mplays args H).map fun v => (v, H)) := by
  refine fq_ok (s := s_mplays) (tab := [(5, .pu s_live29), (6, .pu s_mnew), (9, .pu s_rnew29), (10, .pu s_rmay29), (11, .fq s_mbox), (12, .fq s_mmay), (7, .fp s_mdo), (13, .pu s_rdo29), (14, .fq s_same29)]) hmix (TabOk.cons (e := .pu s_live29) ok_live29 (TabOk.cons (e := .pu s_mnew) ok_mnew (TabOk.cons (e := .pu s_rnew29) ok_rnew29 (TabOk.cons (e := .pu s_rmay29) ok_rmay29 (TabOk.cons (e := .fq s_mbox) ok_mbox (TabOk.cons (e := .fq s_mmay) ok_mmay (TabOk.cons (e := .fp s_mdo) ok_mdo (TabOk.cons (e := .pu s_rdo29) ok_rdo29 (TabOk.cons (e := .fq s_same29) ok_same29 TabOk.nil))))))))) Try.func4 rfl Try.results4 Try.ntmps4 (by kernel_rfl) (by kernel_rfl) ?_
  intro args H v h hargs hH
  obtain ⟨n0, y, L, rfl, h1, hL, rfl⟩ := s_mplays_inv h
  refine ⟨by simp only [List.length_cons, List.length_nil]; decide, rfl, ?_⟩
  have byy : y.bel H.length = true := by simp only [List.all_cons, AV.bel, Bool.and_eq_true] at hargs; exact hargs.2.1
  have hy := slD_inv dcDd_d h1
  have yl : ∀ e, lenB (.sl e) (.c y) = some (.c (.i L.length)) := by
    intro e
    rcases hy with ⟨rfl, rfl⟩ | ⟨id2, v2, rfl, hv2, hcs2⟩ <;> rfl
  by_cases h100 : (100 : Int) < (L.length : Int)
  · (try simp (config := { maxSteps := 10000000 }) only [go_sem, List.reduceReplicate, BitVec.reduceOfInt, BitVec.reduceToNat, BitVec.reduceToInt, BitVec.reduceEq, BitVec.reduceLT, BitVec.reduceLE, BitVec.reduceAdd, BitVec.reduceSub, BitVec.reduceMul, BitVec.reduceUDiv, BitVec.reduceUMod, BitVec.reduceAnd, BitVec.reduceOr, BitVec.reduceXOr, BitVec.reduceNot, BitVec.reduceNeg, BitVec.reduceHShiftLeft, BitVec.reduceHShiftRight, Nat.reduceAdd, Nat.reduceMul, Nat.reduceSub, Nat.reduceBEq, Nat.reduceEqDiff, Nat.reduceLeDiff, Nat.reduceLT, Int.reduceLE, Int.reduceLT, Int.reduceAdd, Int.reduceSub, Int.reduceMul, Int.reduceNeg, Int.reduceToNat, Int.reduceEq, ↓reduceIte, reduceCtorEq, s_live29_eq, yl, h100]; repeat (simp (disch := omega) only [w64_d, ipos, ineg, dpos, dneg]; try simp (config := { maxSteps := 10000000 }) only [go_sem, List.reduceReplicate, BitVec.reduceOfInt, BitVec.reduceToNat, BitVec.reduceToInt, BitVec.reduceEq, BitVec.reduceLT, BitVec.reduceLE, BitVec.reduceAdd, BitVec.reduceSub, BitVec.reduceMul, BitVec.reduceUDiv, BitVec.reduceUMod, BitVec.reduceAnd, BitVec.reduceOr, BitVec.reduceXOr, BitVec.reduceNot, BitVec.reduceNeg, BitVec.reduceHShiftLeft, BitVec.reduceHShiftRight, Nat.reduceAdd, Nat.reduceMul, Nat.reduceSub, Nat.reduceBEq, Nat.reduceEqDiff, Nat.reduceLeDiff, Nat.reduceLT, Int.reduceLE, Int.reduceLT, Int.reduceAdd, Int.reduceSub, Int.reduceMul, Int.reduceNeg, Int.reduceToNat, Int.reduceEq, ↓reduceIte, reduceCtorEq, s_live29_eq, yl, h100]))
    exact subH_refl _
  generalize hn0 : (if 1 ≤ n0 ∧ n0 ≤ 8 then n0 else 0) = n
  have n8 : n ≤ 8 := by rw [← hn0]; split <;> omega
  obtain ⟨f1, f2, f3⟩ := mlf n
  have z0 := mlC_len 0 Z8_len
  have z1 : (mlC 0 Z8).drop 321 = [] := (mlf 0).1
  (try simp (config := { maxSteps := 10000000 }) only [go_sem, List.reduceReplicate, BitVec.reduceOfInt, BitVec.reduceToNat, BitVec.reduceToInt, BitVec.reduceEq, BitVec.reduceLT, BitVec.reduceLE, BitVec.reduceAdd, BitVec.reduceSub, BitVec.reduceMul, BitVec.reduceUDiv, BitVec.reduceUMod, BitVec.reduceAnd, BitVec.reduceOr, BitVec.reduceXOr, BitVec.reduceNot, BitVec.reduceNeg, BitVec.reduceHShiftLeft, BitVec.reduceHShiftRight, Nat.reduceAdd, Nat.reduceMul, Nat.reduceSub, Nat.reduceBEq, Nat.reduceEqDiff, Nat.reduceLeDiff, Nat.reduceLT, Int.reduceLE, Int.reduceLT, Int.reduceAdd, Int.reduceSub, Int.reduceMul, Int.reduceNeg, Int.reduceToNat, Int.reduceEq, ↓reduceIte, reduceCtorEq, s_live29_eq, s_mnew_eq, s_rnew29_eq, yl, h100, hn0, zMail, zM29, z0, z1, f1, f2, f3]; repeat (simp (disch := omega) only [w64_d, ipos, ineg, dpos, dneg]; try simp (config := { maxSteps := 10000000 }) only [go_sem, List.reduceReplicate, BitVec.reduceOfInt, BitVec.reduceToNat, BitVec.reduceToInt, BitVec.reduceEq, BitVec.reduceLT, BitVec.reduceLE, BitVec.reduceAdd, BitVec.reduceSub, BitVec.reduceMul, BitVec.reduceUDiv, BitVec.reduceUMod, BitVec.reduceAnd, BitVec.reduceOr, BitVec.reduceXOr, BitVec.reduceNot, BitVec.reduceNeg, BitVec.reduceHShiftLeft, BitVec.reduceHShiftRight, Nat.reduceAdd, Nat.reduceMul, Nat.reduceSub, Nat.reduceBEq, Nat.reduceEqDiff, Nat.reduceLeDiff, Nat.reduceLT, Int.reduceLE, Int.reduceLT, Int.reduceAdd, Int.reduceSub, Int.reduceMul, Int.reduceNeg, Int.reduceToNat, Int.reduceEq, ↓reduceIte, reduceCtorEq, s_live29_eq, s_mnew_eq, s_rnew29_eq, yl, h100, hn0, zMail, zM29, z0, z1, f1, f2, f3]))
  have bh : ∀ B R : List Row, belH (H ++ [.own (mlC n B), .own (mlC n R)]) = true := fun B R => bel_app2 hH (mlC_bel _ _ _) (mlC_bel _ _ _)
  have ll : ∀ a b : AObj, (H ++ [a, b]).length = H.length + 2 := fun a b => by simp
  have by2 : y.bel (H.length + 2) = true := Sc.bel_mono byy (by omega)
  have bp0 : (Sc.p H.length 0 0).bel (H.length + 2) = true := by simp [Sc.bel]
  have bp1 : (Sc.p (H.length + 1) 0 0).bel (H.length + 2) = true := by simp [Sc.bel]
  rw [arun_loop]
  refine ⟨{x : Nat × List Row × List Row // x.1 ≤ L.length ∧ x.2.1.length = 8 ∧ x.2.2.length = 8 ∧ trn n x.2.1 x.2.2 ∧ zer n x.2.1}, fun x => ([(1, .c y), (5, .c (.p H.length 0 0)), (6, .c (.p (H.length + 1) 0 0)), (7, .c (.i (x.1.1 : Nat)))], H ++ [.own (mlC n x.1.2.1), .own (mlC n x.1.2.2)]), fun x => L.length - x.1.1, ⟨(0, Z8, Z8), Nat.zero_le _, Z8_len, Z8_len, trn_0 n, zer_0 n⟩, ?_, ?_⟩
  · exact Wk.wk (by simp [lo]) (by simp [Am.get]) (by simp only [ll, List.all_cons, List.all_nil, Bool.and_true, Bool.and_eq_true, AV.bel]; exact ⟨by2, bp0, bp1, rfl⟩) (subH_refl _) (bh _ _)
  rintro ⟨⟨k, B, R⟩, hk, hB, hR, htr, hz⟩
  simp only at hk hB hR htr hz ⊢
  have l0 := mlC_len n hB
  have l1 := mlC_len n hR
  have tB : (mlC n B).take 321 = mlC n B := List.take_of_length_le (by omega)
  have tR : (mlC n R).take 321 = mlC n R := List.take_of_length_le (by omega)
  by_cases hlt : k < L.length
  rotate_left
  · obtain rfl : k = L.length := by omega
    have q1 : ∀ X, s_same29 [.c (.p H.length 0 0), .g (mlC n R)] (H ++ .own (mlC n B) :: X) = some (.c (.b true)) := fun X => s_same29_of (by rw [hg_len]; rfl) hB hR n8 htr
    (try simp (config := { maxSteps := 10000000 }) only [go_sem, List.reduceReplicate, BitVec.reduceOfInt, BitVec.reduceToNat, BitVec.reduceToInt, BitVec.reduceEq, BitVec.reduceLT, BitVec.reduceLE, BitVec.reduceAdd, BitVec.reduceSub, BitVec.reduceMul, BitVec.reduceUDiv, BitVec.reduceUMod, BitVec.reduceAnd, BitVec.reduceOr, BitVec.reduceXOr, BitVec.reduceNot, BitVec.reduceNeg, BitVec.reduceHShiftLeft, BitVec.reduceHShiftRight, Nat.reduceAdd, Nat.reduceMul, Nat.reduceSub, Nat.reduceBEq, Nat.reduceEqDiff, Nat.reduceLeDiff, Nat.reduceLT, Int.reduceLE, Int.reduceLT, Int.reduceAdd, Int.reduceSub, Int.reduceMul, Int.reduceNeg, Int.reduceToNat, Int.reduceEq, ↓reduceIte, reduceCtorEq, s_live29_eq, yl, q1, l1, tR]; repeat (simp (disch := omega) only [w64_d, ipos, ineg, dpos, dneg]; try simp (config := { maxSteps := 10000000 }) only [go_sem, List.reduceReplicate, BitVec.reduceOfInt, BitVec.reduceToNat, BitVec.reduceToInt, BitVec.reduceEq, BitVec.reduceLT, BitVec.reduceLE, BitVec.reduceAdd, BitVec.reduceSub, BitVec.reduceMul, BitVec.reduceUDiv, BitVec.reduceUMod, BitVec.reduceAnd, BitVec.reduceOr, BitVec.reduceXOr, BitVec.reduceNot, BitVec.reduceNeg, BitVec.reduceHShiftLeft, BitVec.reduceHShiftRight, Nat.reduceAdd, Nat.reduceMul, Nat.reduceSub, Nat.reduceBEq, Nat.reduceEqDiff, Nat.reduceLeDiff, Nat.reduceLT, Int.reduceLE, Int.reduceLT, Int.reduceAdd, Int.reduceSub, Int.reduceMul, Int.reduceNeg, Int.reduceToNat, Int.reduceEq, ↓reduceIte, reduceCtorEq, s_live29_eq, yl, q1, l1, tR]))
    exact subH_app _ _
  rcases hy with ⟨rfl, rfl⟩ | ⟨id, v, rfl, hv, hcs⟩
  · simp at hlt
  have lid : id < H.length := by simpa [Sc.bel] using byy
  obtain ⟨d, hd⟩ : ∃ d, L[k]? = some d := ⟨_, List.getElem?_eq_getElem hlt⟩
  have kI : ((k : Int) < (L.length : Int)) := by omega
  have k0 : (0 : Int) ≤ (k : Int) := by omega
  have e1 : w64 ((k : Int) + 1) = ((k + 1 : Nat) : Int) := by rw [w64_of (by omega)]; omega
  have gx : ∀ X, hg (H ++ X) id = hg H id := fun X => hg_lt' lid
  have g1 := fm_le encDd_l (L := L) (k := k) hlt
  have g3 := fm_get encDd_l hd
  rw [← hcs] at g1 g3
  have hv := hv.symm
  obtain ⟨ht, kd, ad, nx, c, z, o, da, ol, li, h, ⟨rs, rv, rd, ra, ri⟩, e1', e2', e3', e4'⟩ := d
  have es : encDd ⟨ht, kd, ad, nx, c, z, o, da, ol, li, h, ⟨rs, rv, rd, ra, ri⟩, e1', e2', e3', e4'⟩ = [.i ht, .i kd, .u ad, .u nx, .i c, .i z, .i o, .u da, .u ol, .b li, .i h, .b rs, .b rv, .b rd, .u ra, .i ri, .i e1', .u e2', .i e3', .u e4'] := rfl
  rw [es] at g3
  obtain ⟨m0, m1⟩ := isM_of n hR
  have m2 : isM2 (mlC n R) := ⟨n, R, rfl, hR, n8⟩
  have ev : rdoV (mlC n R) ht kd h ⟨rs, rv, rd, ra, ri⟩ = .t [.g (mlC n (doR n R ht kd h ⟨rs, rv, rd, ra, ri⟩)), .g (doRA n R ht kd h ⟨rs, rv, rd, ra, ri⟩), .c (.b (mlMay n ht kd h rs ri))] := by unfold rdoV; rw [mlD_of hR]
  obtain ⟨ktr, kz, kA⟩ := do_keep (hart := ht) (k := kd) (h := h) (q := ⟨rs, rv, rd, ra, ri⟩) hB hR n8 htr hz
  have kB := doB_len (n := n) (B := B) (hart := ht) (k := kd) (h := h) (q := ⟨rs, rv, rd, ra, ri⟩)
  have kR := doR_len (n := n) (R := R) (hart := ht) (k := kd) (h := h) (q := ⟨rs, rv, rd, ra, ri⟩)
  rw [hB] at kB
  rw [hR] at kR
  obtain ⟨ag, ar, hA⟩ := doA_is n B ht kd h ⟨rs, rv, rd, ra, ri⟩
  rw [← kA] at ev
  have q1 : ∀ X, s_mbox [.c (.p H.length 0 0), .c (.i ht), .g [.i kd, .u ad, .u nx, .i c, .i z, .i o, .u da, .u ol, .b li, .i h, .b rs, .b rv, .b rd, .u ra, .i ri, .i e1', .u e2', .i e3', .u e4']] (H ++ .own (mlC n B) :: X) = some (.t [.c (.i (boxI n ht kd h rs ri)), .c (.b (mlMay n ht kd h rs ri))]) := fun X => s_mbox_eq (by rw [hg_len]; rfl) hB
  have q2 : ∀ X, s_mmay [.c (.p H.length 0 0), .c (.i ht), .g [.i kd, .u ad, .u nx, .i c, .i z, .i o, .u da, .u ol, .b li, .i h, .b rs, .b rv, .b rd, .u ra, .i ri, .i e1', .u e2', .i e3', .u e4']] (H ++ .own (mlC n B) :: X) = some (.c (.b (mlMay n ht kd h rs ri))) := fun X => s_mmay_eq (by rw [hg_len]; rfl) hB
  have q3 : ∀ X, s_mdo [.c (.p H.length 0 0), .c (.i ht), .g [.i kd, .u ad, .u nx, .i c, .i z, .i o, .u da, .u ol, .b li, .i h, .b rs, .b rv, .b rd, .u ra, .i ri, .i e1', .u e2', .i e3', .u e4']] (H ++ .own (mlC n B) :: X) = some (.t [.g (doA n B ht kd h ⟨rs, rv, rd, ra, ri⟩), .c (.b (mlMay n ht kd h rs ri))], H ++ .own (mlC n (doB n B ht kd h ⟨rs, rv, rd, ra, ri⟩)) :: X) := by
    intro X
    rw [s_mdo_eq (n := n) (B := B) (by rw [hg_len]; rfl) hB n8]
    have := set_len_add (H := H) (X := .own (mlC n B) :: X) (n := 0) (o := .own (mlC n (doB n B ht kd h ⟨rs, rv, rd, ra, ri⟩)))
    rw [Nat.add_zero] at this
    rw [this]; rfl
  rw [hA] at q3 ev
  generalize doB n B ht kd h ⟨rs, rv, rd, ra, ri⟩ = B' at *
  generalize doR n R ht kd h ⟨rs, rv, rd, ra, ri⟩ = R' at *
  have l2 := mlC_len n kB
  have l3 := mlC_len n kR
  have tR' : (mlC n R').take 321 = mlC n R' := List.take_of_length_le (by omega)
  have dR : (mlC n R).drop 321 = [] := List.drop_of_length_le (by omega)
  have oB := mlC_one n B
  have oR := mlC_one n R
  have oR' := mlC_one n R'
  have al := ansC_l 0#64 ag ar
  have ao := ansC_one 0#64 ag ar
  have at' : (ansC 0#64 ag ar).take 42 = ansC 0#64 ag ar := List.take_of_length_le (by omega)
  have an := ans_ne 0#64 ag ar
  have q4 : ∀ X, s_same29 [.c (.p H.length 0 0), .g (mlC n R')] (H ++ .own (mlC n B') :: X) = some (.c (.b true)) := fun X => s_same29_of (by rw [hg_len]; rfl) kB kR n8 ktr
  have q5 : ∀ a b c X, s_same29 [.c (.p (H.length + 3) 0 0), .g (mlC n R)] (H ++ a :: b :: c :: .own (mlC n B) :: X) = some (.c (.b true)) := fun a b c X => s_same29_of (by rw [hg_len_add]; rfl) hB hR n8 htr
  have hm := rfl (a := mlMay n ht kd h rs ri)
  cases hmm : mlMay n ht kd h rs ri
  · have bx : boxI n ht kd h rs ri = 0 := by unfold boxI; rw [if_neg (by simp [hmm])]
    rw [hmm] at q1 q2 q3 ev
    rw [bx] at q1
    (try simp (config := { maxSteps := 10000000 }) only [go_sem, List.reduceReplicate, BitVec.reduceOfInt, BitVec.reduceToNat, BitVec.reduceToInt, BitVec.reduceEq, BitVec.reduceLT, BitVec.reduceLE, BitVec.reduceAdd, BitVec.reduceSub, BitVec.reduceMul, BitVec.reduceUDiv, BitVec.reduceUMod, BitVec.reduceAnd, BitVec.reduceOr, BitVec.reduceXOr, BitVec.reduceNot, BitVec.reduceNeg, BitVec.reduceHShiftLeft, BitVec.reduceHShiftRight, Nat.reduceAdd, Nat.reduceMul, Nat.reduceSub, Nat.reduceBEq, Nat.reduceEqDiff, Nat.reduceLeDiff, Nat.reduceLT, Int.reduceLE, Int.reduceLT, Int.reduceAdd, Int.reduceSub, Int.reduceMul, Int.reduceNeg, Int.reduceToNat, Int.reduceEq, ↓reduceIte, reduceCtorEq, s_rmay29_eq, s_rdo29_eq, yl, kI, k0, e1, gx, g1, g3, hv, m0, m1, m2, ev, q1, q2, q3, q4, q5, l0, l1, l2, l3, tB, tR, tR', dR, oB, oR, oR', al, ao, at', an, zMail, zM29, z0, z1, hmm]; repeat (simp (disch := omega) only [w64_d, ipos, ineg, dpos, dneg]; try simp (config := { maxSteps := 10000000 }) only [go_sem, List.reduceReplicate, BitVec.reduceOfInt, BitVec.reduceToNat, BitVec.reduceToInt, BitVec.reduceEq, BitVec.reduceLT, BitVec.reduceLE, BitVec.reduceAdd, BitVec.reduceSub, BitVec.reduceMul, BitVec.reduceUDiv, BitVec.reduceUMod, BitVec.reduceAnd, BitVec.reduceOr, BitVec.reduceXOr, BitVec.reduceNot, BitVec.reduceNeg, BitVec.reduceHShiftLeft, BitVec.reduceHShiftRight, Nat.reduceAdd, Nat.reduceMul, Nat.reduceSub, Nat.reduceBEq, Nat.reduceEqDiff, Nat.reduceLeDiff, Nat.reduceLT, Int.reduceLE, Int.reduceLT, Int.reduceAdd, Int.reduceSub, Int.reduceMul, Int.reduceNeg, Int.reduceToNat, Int.reduceEq, ↓reduceIte, reduceCtorEq, s_rmay29_eq, s_rdo29_eq, yl, kI, k0, e1, gx, g1, g3, hv, m0, m1, m2, ev, q1, q2, q3, q4, q5, l0, l1, l2, l3, tB, tR, tR', dR, oB, oR, oR', al, ao, at', an, zMail, zM29, z0, z1, hmm]))
    exact ⟨⟨(k + 1, B', R'), hlt, kB, kR, ktr, kz⟩, by simp only; omega, Wk.wk (by simp [lo]) (by simp [Am.get]) (by simp only [ll, List.all_cons, List.all_nil, Bool.and_true, Bool.and_eq_true, AV.bel]; exact ⟨by2, bp0, bp1, rfl⟩) subH_3 (bh _ _)⟩
  by_cases k12 : kd = 12
  · have bx : boxI n ht kd h rs ri = ht := by unfold boxI; rw [if_pos hmm, if_pos k12]
    rw [hmm] at q1 q2 q3 ev
    rw [bx] at q1
    subst k12
    (try simp (config := { maxSteps := 10000000 }) only [go_sem, List.reduceReplicate, BitVec.reduceOfInt, BitVec.reduceToNat, BitVec.reduceToInt, BitVec.reduceEq, BitVec.reduceLT, BitVec.reduceLE, BitVec.reduceAdd, BitVec.reduceSub, BitVec.reduceMul, BitVec.reduceUDiv, BitVec.reduceUMod, BitVec.reduceAnd, BitVec.reduceOr, BitVec.reduceXOr, BitVec.reduceNot, BitVec.reduceNeg, BitVec.reduceHShiftLeft, BitVec.reduceHShiftRight, Nat.reduceAdd, Nat.reduceMul, Nat.reduceSub, Nat.reduceBEq, Nat.reduceEqDiff, Nat.reduceLeDiff, Nat.reduceLT, Int.reduceLE, Int.reduceLT, Int.reduceAdd, Int.reduceSub, Int.reduceMul, Int.reduceNeg, Int.reduceToNat, Int.reduceEq, ↓reduceIte, reduceCtorEq, s_rmay29_eq, s_rdo29_eq, yl, kI, k0, e1, gx, g1, g3, hv, m0, m1, m2, ev, q1, q2, q3, q4, q5, l0, l1, l2, l3, tB, tR, tR', dR, oB, oR, oR', al, ao, at', an, zMail, zM29, z0, z1, hmm]; repeat (simp (disch := omega) only [w64_d, ipos, ineg, dpos, dneg]; try simp (config := { maxSteps := 10000000 }) only [go_sem, List.reduceReplicate, BitVec.reduceOfInt, BitVec.reduceToNat, BitVec.reduceToInt, BitVec.reduceEq, BitVec.reduceLT, BitVec.reduceLE, BitVec.reduceAdd, BitVec.reduceSub, BitVec.reduceMul, BitVec.reduceUDiv, BitVec.reduceUMod, BitVec.reduceAnd, BitVec.reduceOr, BitVec.reduceXOr, BitVec.reduceNot, BitVec.reduceNeg, BitVec.reduceHShiftLeft, BitVec.reduceHShiftRight, Nat.reduceAdd, Nat.reduceMul, Nat.reduceSub, Nat.reduceBEq, Nat.reduceEqDiff, Nat.reduceLeDiff, Nat.reduceLT, Int.reduceLE, Int.reduceLT, Int.reduceAdd, Int.reduceSub, Int.reduceMul, Int.reduceNeg, Int.reduceToNat, Int.reduceEq, ↓reduceIte, reduceCtorEq, s_rmay29_eq, s_rdo29_eq, yl, kI, k0, e1, gx, g1, g3, hv, m0, m1, m2, ev, q1, q2, q3, q4, q5, l0, l1, l2, l3, tB, tR, tR', dR, oB, oR, oR', al, ao, at', an, zMail, zM29, z0, z1, hmm]))
    exact ⟨⟨(k + 1, B', R'), hlt, kB, kR, ktr, kz⟩, by simp only; omega, Wk.wk (by simp [lo]) (by simp [Am.get]) (by simp only [ll, List.all_cons, List.all_nil, Bool.and_true, Bool.and_eq_true, AV.bel]; exact ⟨by2, bp0, bp1, rfl⟩) subH_3 (bh _ _)⟩
  · have bx : boxI n ht kd h rs ri = h := by unfold boxI; rw [if_pos hmm, if_neg k12]
    rw [hmm] at q1 q2 q3 ev
    rw [bx] at q1
    (try simp (config := { maxSteps := 10000000 }) only [go_sem, List.reduceReplicate, BitVec.reduceOfInt, BitVec.reduceToNat, BitVec.reduceToInt, BitVec.reduceEq, BitVec.reduceLT, BitVec.reduceLE, BitVec.reduceAdd, BitVec.reduceSub, BitVec.reduceMul, BitVec.reduceUDiv, BitVec.reduceUMod, BitVec.reduceAnd, BitVec.reduceOr, BitVec.reduceXOr, BitVec.reduceNot, BitVec.reduceNeg, BitVec.reduceHShiftLeft, BitVec.reduceHShiftRight, Nat.reduceAdd, Nat.reduceMul, Nat.reduceSub, Nat.reduceBEq, Nat.reduceEqDiff, Nat.reduceLeDiff, Nat.reduceLT, Int.reduceLE, Int.reduceLT, Int.reduceAdd, Int.reduceSub, Int.reduceMul, Int.reduceNeg, Int.reduceToNat, Int.reduceEq, ↓reduceIte, reduceCtorEq, s_rmay29_eq, s_rdo29_eq, yl, kI, k0, e1, gx, g1, g3, hv, m0, m1, m2, ev, q1, q2, q3, q4, q5, l0, l1, l2, l3, tB, tR, tR', dR, oB, oR, oR', al, ao, at', an, zMail, zM29, z0, z1, hmm, k12]; repeat (simp (disch := omega) only [w64_d, ipos, ineg, dpos, dneg]; try simp (config := { maxSteps := 10000000 }) only [go_sem, List.reduceReplicate, BitVec.reduceOfInt, BitVec.reduceToNat, BitVec.reduceToInt, BitVec.reduceEq, BitVec.reduceLT, BitVec.reduceLE, BitVec.reduceAdd, BitVec.reduceSub, BitVec.reduceMul, BitVec.reduceUDiv, BitVec.reduceUMod, BitVec.reduceAnd, BitVec.reduceOr, BitVec.reduceXOr, BitVec.reduceNot, BitVec.reduceNeg, BitVec.reduceHShiftLeft, BitVec.reduceHShiftRight, Nat.reduceAdd, Nat.reduceMul, Nat.reduceSub, Nat.reduceBEq, Nat.reduceEqDiff, Nat.reduceLeDiff, Nat.reduceLT, Int.reduceLE, Int.reduceLT, Int.reduceAdd, Int.reduceSub, Int.reduceMul, Int.reduceNeg, Int.reduceToNat, Int.reduceEq, ↓reduceIte, reduceCtorEq, s_rmay29_eq, s_rdo29_eq, yl, kI, k0, e1, gx, g1, g3, hv, m0, m1, m2, ev, q1, q2, q3, q4, q5, l0, l1, l2, l3, tB, tR, tR', dR, oB, oR, oR', al, ao, at', an, zMail, zM29, z0, z1, hmm, k12]))
    exact ⟨⟨(k + 1, B', R'), hlt, kB, kR, ktr, kz⟩, by simp only; omega, Wk.wk (by simp [lo]) (by simp [Am.get]) (by simp only [ll, List.all_cons, List.all_nil, Bool.and_true, Bool.and_eq_true, AV.bel]; exact ⟨by2, bp0, bp1, rfl⟩) subH_3 (bh _ _)⟩
theorem sig_mplays (avs : List AV) (H : AH) (h : SigA [.fl false [.n .i64], .sl [.n .i64, .n .i64, .n .u64, .n .u64, .n .i64, .n .i64, .n .i64, .n .u64, .n .u64, .q, .n .i64, .q, .q, .q, .n .u64, .n .i64, .n .i64, .n .u64, .n .i64, .n .u64]] avs H) : s_mplays avs H = some (.c (.b true)) := by
  obtain ⟨s, r0, rfl, ks, h2⟩ := sig_c h
  obtain ⟨n0, rfl, _⟩ := fk_i ks
  obtain ⟨y, r1, rfl, h3, l, hl, hp, hn⟩ := sig_row (f := encDd) (w := 20) (dc := dcDd) (p := fun _ => True) (fun cs hcs => by
    obtain ⟨a0, _, rfl, k0, g⟩ := fit_cons hcs
    obtain ⟨a1, _, rfl, k1, g⟩ := fit_cons g
    obtain ⟨a2, _, rfl, k2, g⟩ := fit_cons g
    obtain ⟨a3, _, rfl, k3, g⟩ := fit_cons g
    obtain ⟨a4, _, rfl, k4, g⟩ := fit_cons g
    obtain ⟨a5, _, rfl, k5, g⟩ := fit_cons g
    obtain ⟨a6, _, rfl, k6, g⟩ := fit_cons g
    obtain ⟨a7, _, rfl, k7, g⟩ := fit_cons g
    obtain ⟨a8, _, rfl, k8, g⟩ := fit_cons g
    obtain ⟨a9, _, rfl, k9, g⟩ := fit_cons g
    obtain ⟨a10, _, rfl, k10, g⟩ := fit_cons g
    obtain ⟨a11, _, rfl, k11, g⟩ := fit_cons g
    obtain ⟨a12, _, rfl, k12, g⟩ := fit_cons g
    obtain ⟨a13, _, rfl, k13, g⟩ := fit_cons g
    obtain ⟨a14, _, rfl, k14, g⟩ := fit_cons g
    obtain ⟨a15, _, rfl, k15, g⟩ := fit_cons g
    obtain ⟨a16, _, rfl, k16, g⟩ := fit_cons g
    obtain ⟨a17, _, rfl, k17, g⟩ := fit_cons g
    obtain ⟨a18, _, rfl, k18, g⟩ := fit_cons g
    obtain ⟨a19, _, rfl, k19, g⟩ := fit_cons g
    obtain rfl := fit_nil g
    obtain ⟨a0, rfl, _⟩ := fk_i k0
    obtain ⟨a1, rfl, _⟩ := fk_i k1
    obtain ⟨a2, rfl⟩ := fk_u k2
    obtain ⟨a3, rfl⟩ := fk_u k3
    obtain ⟨a4, rfl, _⟩ := fk_i k4
    obtain ⟨a5, rfl, _⟩ := fk_i k5
    obtain ⟨a6, rfl, _⟩ := fk_i k6
    obtain ⟨a7, rfl⟩ := fk_u k7
    obtain ⟨a8, rfl⟩ := fk_u k8
    obtain ⟨a9, rfl⟩ := fk_q k9
    obtain ⟨a10, rfl, _⟩ := fk_i k10
    obtain ⟨a11, rfl⟩ := fk_q k11
    obtain ⟨a12, rfl⟩ := fk_q k12
    obtain ⟨a13, rfl⟩ := fk_q k13
    obtain ⟨a14, rfl⟩ := fk_u k14
    obtain ⟨a15, rfl, _⟩ := fk_i k15
    obtain ⟨a16, rfl, _⟩ := fk_i k16
    obtain ⟨a17, rfl⟩ := fk_u k17
    obtain ⟨a18, rfl, _⟩ := fk_i k18
    obtain ⟨a19, rfl⟩ := fk_u k19
    exact ⟨⟨a0, a1, a2, a3, a4, a5, a6, a7, a8, a9, a10, ⟨a11, a12, a13, a14, a15⟩, a16, a17, a18, a19⟩, rfl, trivial⟩) encDd_l dcDd_e h2
  obtain rfl := sig_nil h3
  simp only [s_mplays, hl]
  rw [if_pos hn]

end
end Go.Proofs.Ythjhkckndnhjpaa
