/- Layer 32: a number is laid: contract. -/
import Derived.Test.YtcbhelkafelofaaGreatFlI
namespace Go.Proofs.YtcbhelkafelofaaGreat
open Go.Am
set_option linter.unusedSimpArgs false
set_option linter.unusedVariables false
noncomputable section
set_option maxRecDepth 100000

section
variable {H : AH}
def s_flayW (args : List AV) (H : AH) : Option (AV × AH) :=
  match args with
  | [.c (.p p 0 0), .c (.i h), .g (.i k :: .u a :: .u b :: .i c :: .i s :: r), .c (.u v)] =>
    match fwQ H p with
    | some z => if hasP z.B.length a b c s = true ∧ smB c s = true ∧ groupI k = 1 ∧ r.length = 14 ∧ r.all Sc.pf = true ∧ r.all Sc.one = true then some (.t [], fwSet H z (layP z.B a b c s v) (killL z.R (linL a b c s) h 8)) else none
    | none => none
  | _ => none
theorem s_flayW_eq {z : Fw} {h k : Int} {a b : BitVec 64} {c s : Int} {r : List Sc} {v : BitVec 64} (hz : FwI H z) (h1 : hasP z.B.length a b c s = true) (h2 : smB c s = true) (h3 : groupI k = 1) (h4 : r.length = 14) (h5 : r.all Sc.pf = true) (h6 : r.all Sc.one = true) :
    s_flayW [.c (.p z.p 0 0), .c (.i h), .g (.i k :: .u a :: .u b :: .i c :: .i s :: r), .c (.u v)] H = some (.t [], fwSet H z (layP z.B a b c s v) (killL z.R (linL a b c s) h 8)) := by
  simp only [s_flayW, fwQ_of hz]; rw [if_pos ⟨h1, h2, h3, h4, h5, h6⟩]
theorem len_flayW (args : List AV) (H : AH) (v : AV) (H1 : AH) (h : s_flayW args H = some (v, H1)) : H.length ≤ H1.length := by
  unfold s_flayW at h
  repeat' split at h
  all_goals simp at h
  rw [← h.2, fwSet_len]; exact Nat.le_refl _
theorem linW_mem {a b : BitVec 64} {c s : Int} {y : BitVec 64} : y ∈ ddp (srt ltU (linL a b c s)) ↔ y ∈ linL a b c s := by
  rw [(ddp_spec linU (srt_sorted linU)).2 y, srt_mem]
theorem pt_parts {B : List Int} {id : Nat} {a b : BitVec 64} {c s : Int} {v : BitVec 64} (hp : hasP B.length a b c s = true) (hm : smB c s = true) :
    ∃ x1 n0 n1 o1, ptV id 0 B.length B.length a b c s = .t [.c (.sl id (offW a) B.length n0), .c x1, .c (.b true)] ∧ (x1 = .nils ∧ n1 = 0 ∨ x1 = .sl id o1 B.length n1) ∧ offW a + n0 ≤ B.length ∧ o1 + n1 ≤ B.length ∧ n0 ≤ 8 ∧ n1 ≤ 8 ∧
      layP B a b c s v = layB (layB B (offW a) (lbL v n0)) o1 (lbL (v >>> (8 * n0)) n1) := by
  simp only [smB, decide_eq_true_eq] at hm
  obtain ⟨m1, m2, m3, m4⟩ := hm
  unfold hasP at hp
  unfold ptV layP
  by_cases c0 : c = 0
  · rw [if_pos c0] at hp
    rw [if_pos c0, if_pos c0, if_pos hp]
    rw [hasF_iff] at hp
    refine ⟨.nils, s.toNat, 0, 0, by rw [Nat.zero_add], .inl ⟨rfl, rfl⟩, by omega, by omega, by omega, by omega, ?_⟩
    rw [lbL_0, layB_nil]
  · rw [if_neg c0, Bool.and_eq_true] at hp
    rw [if_neg c0, if_neg c0, if_pos hp]
    rw [hasF_iff, hasF_iff] at hp
    exact ⟨.sl id (offW b) B.length (s - c).toNat, c.toNat, (s - c).toNat, offW b, by rw [Nat.zero_add, Nat.zero_add], .inr rfl, by omega, by omega, by omega, by omega, rfl⟩
set_option maxRecDepth 100000 in
set_option maxHeartbeats 4000000 in
theorem ok_flayW : FpOk Tryz.prog 63 s_flayW := by
  refine fp_ok (s := s_flayW) (tab := [(41, .fq s_fparts), (100, .fp s_elines), (101, .fq s_fcontW)]) hmix (TabOk.cons (e := .fq s_fparts) ok_fparts (TabOk.cons (e := .fp s_elines) ok_elines (TabOk.cons (e := .fq s_fcontW) ok_fcontW TabOk.nil))) Tryz.func63 rfl Tryz.results63 Tryz.ntmps63 (by kernel_rfl) (by kernel_rfl) len_flayW ?_
  intro args H v H1 h hargs hH
  unfold s_flayW at h
  split at h <;> try (simp at h; done)
  rename_i p h0 k a b c s r v
  split at h <;> try (simp at h; done)
  rename_i z hz
  split at h <;> try (simp at h; done)
  rename_i hc
  obtain ⟨hp, hm, hk, lr, pr, ro⟩ := hc
  simp only [Option.some.injEq, Prod.mk.injEq] at h
  obtain ⟨rfl, rfl⟩ := h
  obtain ⟨hI, rfl⟩ := fwQ_inv hz
  refine ⟨by simp only [List.length_cons, List.length_nil]; decide, ?_⟩
  have rt : r.take 14 = r := List.take_of_length_le (by omega)
  have hm' := hm
  simp only [smB, decide_eq_true_eq] at hm'
  obtain ⟨x1, n0, n1, o1, ept, hx, q0, q1, q8, q9, elay⟩ := pt_parts (id := z.id) (v := v) hp hm
  have pt := fun X => s_fparts_eq (k := k) (a := a) (b := b) (c := c) (s := s) (r := r) (hI.app X).R hI.b0 hI.b1 hm'.2.2.1 hm'.2.2.2 hm'.2.1 lr ro
  simp only [Nat.zero_add, ept] at pt
  rw [elay]
  have b1 := hI.b1
  obtain ⟨B1, hB1⟩ : ∃ B1, B1 = layB z.B (offW a) (lbL v n0) := ⟨_, rfl⟩
  have lB1 : B1.length = z.B.length := by rw [hB1, layB_len (by rw [lbL_len]; omega)]
  rw [← hB1]
  obtain ⟨B2, hB2⟩ : ∃ B2, B2 = layB B1 o1 (lbL (v >>> (8 * n0)) n1) := ⟨_, rfl⟩
  have lB2 : B2.length = z.B.length := by rw [hB2, layB_len (by rw [lbL_len]; omega), lB1]
  rw [← hB2]
  have hx1 : (AV.c x1).cells = some [x1] := by rcases hx with ⟨rfl, _⟩ | rfl <;> rfl
  simp only [AV.cells] at hx1
  have xl1 : ∀ e, lenB (.sl e) (.c x1) = some (.c (.i n1)) := by rcases hx with ⟨rfl, rfl⟩ | rfl <;> intro e <;> rfl
  obtain ⟨ask, hask⟩ : ∃ ask : List Sc, ask = .i k :: .u a :: .u b :: .i c :: .i s :: r := ⟨_, rfl⟩
  simp only [← hask] at pt
  have lask : ask.length = 19 := by rw [hask]; simp [lr]
  have task : ask.take 19 = ask := List.take_of_length_le (by omega)
  have oask : ask.all Sc.one = true := by rw [hask]; simp [Sc.one, ro]
  have bask : ∀ n, ask.all (Sc.bel n) = true := fun n => by rw [hask]; simp [Sc.bel, pf_bel n pr]
  let O : List Int → AH := fun B => fwSet H z B z.R
  let P : Nat → AH := fun j => fwSet H z B2 (killL z.R (linL a b c s) h0 j)
  have lO : ∀ B, (O B).length = H.length := fun B => fwSet_len
  have lP : ∀ j, (P j).length = H.length := fun j => fwSet_len
  have bP : ∀ j, belH (P j) = true := fun j => hI.bel hH _ _
  have gI : ∀ B X, hg (O B ++ X) z.id = .vec 1 (B.flatMap e8F) := fun B X => by
    show hg (fwSet H z B z.R ++ X) z.id = _
    rw [hg_lt' (by rw [fwSet_len]; exact hI.li)]
    unfold fwSet
    rw [hg_set_ne' hI.ne, hg_set_same hI.li]
  have gS : ∀ B C X, (O B ++ X).set z.id (.vec 1 (C.flatMap e8F)) = O C ++ X := fun B C X => by
    show (fwSet H z B z.R ++ X).set z.id _ = fwSet H z C z.R ++ X
    rw [List.set_append_left _ _ (by rw [fwSet_len]; exact hI.li)]
    unfold fwSet
    rw [List.set_comm _ _ hI.ne, List.set_set]
  have gL : ∀ B X, hg (O B ++ X) H.length = hg X 0 := fun B X => by rw [← lO B, hg_len]
  have gP : ∀ j X, hg (P j ++ X) z.p = .own (fwC z (killL z.R (linL a b c s) h0 j)) := fun j X => by
    show hg (fwSet H z B2 _ ++ X) z.p = _
    rw [hg_lt' (by rw [fwSet_len]; exact hI.lp)]
    unfold fwSet
    rw [hg_set_same (by rw [List.length_set]; exact hI.lp)]
  have gQ : ∀ j X n, hg (P j ++ X) (H.length + n) = hg X n := fun j X n => by rw [← lP j, hg_len_add]
  have sP : ∀ j R X, (P j ++ X).set z.p (.own (fwC z R)) = fwSet H z B2 R ++ X := fun j R X => by
    show (fwSet H z B2 _ ++ X).set z.p _ = _
    rw [List.set_append_left _ _ (by rw [fwSet_len]; exact hI.lp)]
    unfold fwSet
    rw [List.set_set]
  have sQ : ∀ j X n o, (P j ++ X).set (H.length + n) o = P j ++ X.set n o := fun j X n o => by rw [← lP j, set_len_add]
  have e0 : O z.B = H := hI.self
  have eP : O B2 = P 0 := rfl
  have ePS : ∀ j, P (j + 1) = fwSet H z B2 (killL z.R (linL a b c s) h0 (j + 1)) := fun j => rfl
  have ePJ : ∀ j, P j = fwSet H z B2 (killL z.R (linL a b c s) h0 j) := fun j => rfl
  have eF : fwSet H z B2 (killL z.R (linL a b c s) h0 8) = P 8 := rfl
  rw [eF]
  clear_value O P
  have byw : ∀ (v : BitVec 64) i, IntKind.u8.wrap ((v >>> (8 * i)).toNat : Int) = lbW v i := fun v i => lbW_wrap
  (try simp (config := { maxSteps := 10000000 }) only [go_sem, seval, ← hask, lask, task, oask, pt, hx1]; repeat (simp (disch := omega) only [w64_d, ipos, ineg, dpos, dneg]; try simp (config := { maxSteps := 10000000 }) only [go_sem, seval, ← hask, lask, task, oask, pt, hx1]))
  refine arun_for 2 (fun j => ([(0, .c (.p z.p 0 0)), (1, .c (.i h0)), (3, .c (.u (if j = 0 then v else if j = 1 then v >>> (8 * n0) else v >>> (8 * n0) >>> (8 * n1)))), (6, .c (.p H.length 0 0)), (26, .g [.sl z.id (offW a) z.B.length n0, x1]), (27, .c (.i j))], O (if j = 0 then z.B else if j = 1 then B1 else B2) ++ [.own ask])) ?_ fun j hj => ?_
  · refine wkFe ?_ (by simp [Am.get])
    simp [e0]
  rcases (show j = 0 ∨ j = 1 ∨ j = 2 by omega) with rfl | rfl | rfl
  · have xl : ∀ e, lenB (.sl e) (.c (.sl z.id (offW a) z.B.length n0)) = some (.c (.i n0)) := fun e => rfl
    have xs : (lenB (.sl 0) (.c (.sl z.id (offW a) z.B.length n0))).isSome = true := by rw [xl]; rfl
    (try simp (config := { maxSteps := 10000000 }) only [go_sem, seval, xl, xs, as_len_y, hx1]; repeat (simp (disch := omega) only [w64_d, ipos, ineg, dpos, dneg]; try simp (config := { maxSteps := 10000000 }) only [go_sem, seval, xl, xs, as_len_y, hx1]))
    refine arun_for n0 (fun i => ([(0, .c (.p z.p 0 0)), (1, .c (.i h0)), (3, .c (.u ((v) >>> (8 * i)))), (6, .c (.p H.length 0 0)), (12, .c (.sl z.id (offW a) z.B.length n0)), (26, .g [.sl z.id (offW a) z.B.length n0, x1]), (27, .c (.i 0)), (31, .c (.i n0)), (32, .c (.i i))], O (layB z.B (offW a) (lbL (v) i)) ++ [.own ask])) ?_ fun i hi => ?_
    · refine wkFe ?_ (by simp [Am.get])
      rw [lbL_0, layB_nil]
    · by_cases hlt : i < n0
      rotate_left
      · obtain rfl : i = n0 := by omega
        have iI : ¬ ((i : Int) < i) := by omega
        (try simp (config := { maxSteps := 10000000 }) only [go_sem, seval, iI]; repeat (simp (disch := omega) only [w64_d, ipos, ineg, dpos, dneg]; try simp (config := { maxSteps := 10000000 }) only [go_sem, seval, iI]))
        exact ⟨1, by omega, by omega, by refine wkFe ?_ (by simp [Am.get]); simp [hB1]⟩
    
      have iI : (i : Int) < n0 := by omega
      have i0 : (0 : Int) ≤ (i : Int) := by omega
      have F1 : w64 ((i : Int) + 1) = ((i + 1 : Nat) : Int) := by rw [w64_d (by omega) (by omega)]; omega
      obtain ⟨C, hC⟩ : ∃ C, C = layB z.B (offW a) (lbL (v) i) := ⟨_, rfl⟩
      have lC : C.length = z.B.length := by rw [hC, layB_len (by rw [lbL_len]; omega)]
      have st := layB_step (B := z.B) (c := lbL (v) i) (k := (offW a)) (q := lbW (v) i) (by rw [lbL_len]; omega)
      rw [lbL_len, ← lbL_s, ← hC] at st
      have w1 := wr_e8 C [lbW (v) i] ((offW a) + i)
      rw [st] at w1
      have w2 := w1
      rw [wr_un] at w2
      have w1' : wr (C.flatMap e8F) ((offW a) + i) [.k .u8 (lbW (v) i)] = (layB z.B (offW a) (lbL (v) (i + 1))).flatMap e8F := w1
      have w2' : List.take ((offW a) + i) (C.flatMap e8F) ++ Sc.k .u8 (lbW (v) i) :: List.drop ((offW a) + i + 1) (C.flatMap e8F) = (layB z.B (offW a) (lbL (v) (i + 1))).flatMap e8F := by
        rw [← w2]
        simp only [List.flatMap_cons, List.flatMap_nil, e8F, List.append_nil, List.length_cons, List.length_nil, List.append_assoc, List.cons_append, List.nil_append]
      have lC2 : (offW a) + i + 1 ≤ (C.flatMap e8F).length := by rw [e8w_len, lC]; omega
      have rC : (C.flatMap e8F).length = z.B.length := by rw [e8w_len, lC]
      have bw := byw (v) i
      have sw : (v) >>> (8 * i) >>> 8 = (v) >>> (8 * (i + 1)) := by rw [← BitVec.shiftRight_add]; rfl
      rw [← hC]
      (try simp (config := { maxSteps := 10000000 }) only [go_sem, seval, iI, i0, F1, lC2, rC, w1', w2', bw, sw, gI, gS, gL, Int.toNat_natCast]; repeat (simp (disch := omega) only [w64_d, ipos, ineg, dpos, dneg]; try simp (config := { maxSteps := 10000000 }) only [go_sem, seval, iI, i0, F1, lC2, rC, w1', w2', bw, sw, gI, gS, gL, Int.toNat_natCast]))
      exact ⟨i + 1, by omega, by omega, wkF (by simp [Am.get])⟩
  · have xl : ∀ e, lenB (.sl e) (.c x1) = some (.c (.i n1)) := xl1
    have xs : (lenB (.sl 0) (.c x1)).isSome = true := by rw [xl]; rfl
    (try simp (config := { maxSteps := 10000000 }) only [go_sem, seval, xl, xs, as_len_y, hx1]; repeat (simp (disch := omega) only [w64_d, ipos, ineg, dpos, dneg]; try simp (config := { maxSteps := 10000000 }) only [go_sem, seval, xl, xs, as_len_y, hx1]))
    refine arun_for n1 (fun i => ([(0, .c (.p z.p 0 0)), (1, .c (.i h0)), (3, .c (.u ((v >>> (8 * n0)) >>> (8 * i)))), (6, .c (.p H.length 0 0)), (12, .c x1), (26, .g [.sl z.id (offW a) z.B.length n0, x1]), (27, .c (.i 1)), (31, .c (.i n1)), (32, .c (.i i))], O (layB B1 o1 (lbL (v >>> (8 * n0)) i)) ++ [.own ask])) ?_ fun i hi => ?_
    · refine wkFe ?_ (by simp [Am.get])
      rw [lbL_0, layB_nil]
    · by_cases hlt : i < n1
      rotate_left
      · obtain rfl : i = n1 := by omega
        have iI : ¬ ((i : Int) < i) := by omega
        (try simp (config := { maxSteps := 10000000 }) only [go_sem, seval, iI]; repeat (simp (disch := omega) only [w64_d, ipos, ineg, dpos, dneg]; try simp (config := { maxSteps := 10000000 }) only [go_sem, seval, iI]))
        exact ⟨2, by omega, by omega, by refine wkFe ?_ (by simp [Am.get]); simp [hB2]⟩
      rcases hx with ⟨rfl, rfl⟩ | rfl
      · omega
      have iI : (i : Int) < n1 := by omega
      have i0 : (0 : Int) ≤ (i : Int) := by omega
      have F1 : w64 ((i : Int) + 1) = ((i + 1 : Nat) : Int) := by rw [w64_d (by omega) (by omega)]; omega
      obtain ⟨C, hC⟩ : ∃ C, C = layB B1 o1 (lbL (v >>> (8 * n0)) i) := ⟨_, rfl⟩
      have lC : C.length = z.B.length := by rw [hC, layB_len (by rw [lbL_len]; omega)]; exact lB1
      have st := layB_step (B := B1) (c := lbL (v >>> (8 * n0)) i) (k := o1) (q := lbW (v >>> (8 * n0)) i) (by rw [lbL_len, lB1]; omega)
      rw [lbL_len, ← lbL_s, ← hC] at st
      have w1 := wr_e8 C [lbW (v >>> (8 * n0)) i] (o1 + i)
      rw [st] at w1
      have w2 := w1
      rw [wr_un] at w2
      have w1' : wr (C.flatMap e8F) (o1 + i) [.k .u8 (lbW (v >>> (8 * n0)) i)] = (layB B1 o1 (lbL (v >>> (8 * n0)) (i + 1))).flatMap e8F := w1
      have w2' : List.take (o1 + i) (C.flatMap e8F) ++ Sc.k .u8 (lbW (v >>> (8 * n0)) i) :: List.drop (o1 + i + 1) (C.flatMap e8F) = (layB B1 o1 (lbL (v >>> (8 * n0)) (i + 1))).flatMap e8F := by
        rw [← w2]
        simp only [List.flatMap_cons, List.flatMap_nil, e8F, List.append_nil, List.length_cons, List.length_nil, List.append_assoc, List.cons_append, List.nil_append]
      have lC2 : o1 + i + 1 ≤ (C.flatMap e8F).length := by rw [e8w_len, lC]; omega
      have rC : (C.flatMap e8F).length = z.B.length := by rw [e8w_len, lC]
      have bw := byw (v >>> (8 * n0)) i
      have sw : (v >>> (8 * n0)) >>> (8 * i) >>> 8 = (v >>> (8 * n0)) >>> (8 * (i + 1)) := by rw [← BitVec.shiftRight_add]; rfl
      rw [← hC]
      (try simp (config := { maxSteps := 10000000 }) only [go_sem, seval, iI, i0, F1, lC2, rC, w1', w2', bw, sw, gI, gS, gL, Int.toNat_natCast]; repeat (simp (disch := omega) only [w64_d, ipos, ineg, dpos, dneg]; try simp (config := { maxSteps := 10000000 }) only [go_sem, seval, iI, i0, F1, lC2, rC, w1', w2', bw, sw, gI, gS, gL, Int.toNat_natCast]))
      exact ⟨i + 1, by omega, by omega, wkF (by simp [Am.get])⟩
  · have lL : (linL a b c s).length ≤ 4 := by rw [linL_len]; exact accP_le
    have p1 : s_elines [.g ask] (O B2 ++ [.own ask]) = some (.c (.sl (H.length + 1) 0 (linL a b c s).length (ddp (srt ltU (linL a b c s))).length), P 0 ++ [.own ask, .vec 1 (cmpCU (srt ltU (linL a b c s)))]) := by
      rw [hask, s_elines_eq ⟨lr, pr⟩, if_pos (by simp [isL, hk, hm]), List.length_append, lO, eP, List.append_assoc]; rfl
    obtain ⟨D, hD⟩ : ∃ D, D = ddp (srt ltU (linL a b c s)) := ⟨_, rfl⟩
    have hmem : ∀ y, decide (y ∈ D) = decide (y ∈ linL a b c s) := fun y => by rw [hD]; exact decide_eq_decide.2 linW_mem
    obtain ⟨Z, hZ⟩ : ∃ Z, Z = cmpCU (srt ltU (linL a b c s)) := ⟨_, rfl⟩
    have hZ2 : ∃ X, Z = D.map gU ++ X ∧ (linL a b c s).length = D.length + X.length ∧ D.length ≤ 4 := by
      have dl : (ddp (srt ltU (linL a b c s))).length ≤ (srt ltU (linL a b c s)).length := ddN_le
      refine ⟨_, by rw [hZ, hD]; rfl, ?_, ?_⟩
      · rw [hD, List.length_replicate]; rw [srt_len] at dl ⊢; omega
      · rw [hD]; rw [srt_len] at dl; omega
    rw [← hD, ← hZ] at p1
    have bZ : ∀ n, Z.all (Sc.bel n) = true := fun n => by rw [hZ]; exact cmpCU_bel
    obtain ⟨X, hX, lX, lD⟩ := hZ2
    have ct : ∀ j Y q, s_fcontW [.c (.sl (H.length + 1) 0 (linL a b c s).length D.length), .c (.u q)] (P j ++ .own ask :: .vec 1 Z :: Y) = some (.c (.b (decide (q ∈ linL a b c s)))) := fun j Y q => by
      rw [s_fcontW_eq (uvF_of (L := D) (X := X) (by rw [gQ, hX]; rfl) lX (by omega)), hmem]
    generalize linL a b c s = L at *
    have tR := fun j => fwC_tab (s := z) (R := killL z.R L h0 j) (by rw [killL_len]; exact hI.l)
    have lR := fun j => fwC_len (s := z) (R := killL z.R L h0 j) (by rw [killL_len]; exact hI.l) hI.lm
    have t0 : killL z.R L h0 0 = z.R := rfl
    have t16 : (tabC z.R).length = 16 := tabC_l hI.l
    have tR0 := tR 0
    rw [t0] at tR0
    have gP0 : ∀ X, hg (P 0 ++ X) z.p = .own (fwC z z.R) := fun X => gP 0 X
    have lR0 := lR 0
    rw [t0] at lR0
    (try simp (config := { maxSteps := 10000000 }) only [go_sem, seval, gL, lask, task, oask, p1, gP0, tR0, lR0]; repeat (simp (disch := omega) only [w64_d, ipos, ineg, dpos, dneg]; try simp (config := { maxSteps := 10000000 }) only [go_sem, seval, gL, lask, task, oask, p1, gP0, tR0, lR0]))
    refine arun_for 8 (fun j => ([(0, .c (.p z.p 0 0)), (1, .c (.i h0)), (14, .c (.sl (H.length + 1) 0 L.length D.length)), (49, .g (tabC z.R)), (50, .c (.i j))], P j ++ [.own ask, .vec 1 Z])) (wkF (by simp [Am.get])) fun j hj => ?_
    by_cases hlt : j < 8
    rotate_left
    · obtain rfl : j = 8 := by omega
      (try simp (config := { maxSteps := 10000000 }) only [go_sem, seval]; repeat (simp (disch := omega) only [w64_d, ipos, ineg, dpos, dneg]; try simp (config := { maxSteps := 10000000 }) only [go_sem, seval]))
      exact fin_fp rfl (subH_app _ _) (bP 8) (by rw [lP]; exact Nat.le_refl _)
    have jI : (j : Int) < 8 := by omega
    have j0 : (0 : Int) ≤ (j : Int) := by omega
    have F1 : w64 ((j : Int) + 1) = ((j + 1 : Nat) : Int) := by rw [w64_d (by omega) (by omega)]; omega
    obtain ⟨x, hxj⟩ : ∃ x, z.R[j]? = some x := ⟨_, List.getElem?_eq_getElem (by rw [hI.l]; omega)⟩
    have gx : z.R.getD j z0 = x := by rw [List.getD_eq_getElem?_getD, hxj]; rfl
    have g3 : ((tabC z.R).drop (j * 2)).take 2 = [.b x.is, .u x.ln] := fm_get slC_l hxj
    have g4 : j * 2 + 2 ≤ (tabC z.R).length := by omega
    have bt := tabC_bel z.R
    have bb : belH (P (j + 1) ++ [.own ask, .vec 1 Z]) = true := belH_app (bP _) (by simp only [List.mem_cons, List.not_mem_nil, or_false, forall_eq_or_imp, forall_eq]; exact ⟨bask _, bZ _⟩)
    have lp := hI.lp
    have wk : ∀ n K fr Y, n ≤ H.length → K = P (j + 1) → (∀ p ∈ ([(0, .c (.p z.p 0 0)), (1, .c (.i h0)), (14, .c (.sl (H.length + 1) 0 L.length D.length)), (49, .g (tabC z.R)), (50, .c (.i ((j + 1 : Nat) : Int)))] : Fr), Am.get fr p.1 = p.2) → Wk n fr (K ++ .own ask :: .vec 1 Z :: Y) ([(0, .c (.p z.p 0 0)), (1, .c (.i h0)), (14, .c (.sl (H.length + 1) 0 L.length D.length)), (49, .g (tabC z.R)), (50, .c (.i ((j + 1 : Nat) : Int)))], P (j + 1) ++ [.own ask, .vec 1 Z]) := fun n K fr Y hn hK hf => by
      subst hK
      exact Wk.wk (by simp [lP]; omega) hf (by simp [AV.bel, Sc.bel, lP, bt]; omega) (subH_pre _ ⟨.inr rfl, .inr rfl, trivial⟩) bb
    have sk : killLB z.R L h0 j = false → P (j + 1) = P j := fun e => by
      rw [ePS, ePJ]; simp only [killL, e]; rfl
    by_cases c1 : (j : Int) = h0
    · have kb : killLB z.R L h0 j = false := by unfold killLB; rw [decide_eq_true c1]; rfl
      have c1' := eq_true c1
      (try simp (config := { maxSteps := 10000000 }) only [go_sem, seval, jI, j0, F1, g3, g4, t16, gQ, sQ, c1']; repeat (simp (disch := omega) only [w64_d, ipos, ineg, dpos, dneg]; try simp (config := { maxSteps := 10000000 }) only [go_sem, seval, jI, j0, F1, g3, g4, t16, gQ, sQ, c1']))
      exact ⟨j + 1, by omega, by omega, wk _ _ _ _ (by simp [lo]) (sk kb).symm (by simp [Am.get])⟩
    cases c2 : x.is with
    | false =>
      have kb : killLB z.R L h0 j = false := by unfold killLB; rw [gx, c2]; simp
      rw [c2] at g3
      (try simp (config := { maxSteps := 10000000 }) only [go_sem, seval, jI, j0, F1, g3, g4, t16, gQ, sQ, c1]; repeat (simp (disch := omega) only [w64_d, ipos, ineg, dpos, dneg]; try simp (config := { maxSteps := 10000000 }) only [go_sem, seval, jI, j0, F1, g3, g4, t16, gQ, sQ, c1]))
      exact ⟨j + 1, by omega, by omega, wk _ _ _ _ (by simp [lo]) (sk kb).symm (by simp [Am.get])⟩
    | true =>
      rw [c2] at g3
      by_cases c3 : x.ln ∈ L
      · have kb : killLB z.R L h0 j = true := by unfold killLB; rw [gx, c2, decide_eq_false c1, decide_eq_true c3]; rfl
        have c3' := decide_eq_true c3
        have w1 := fwC_wr (s := z) (R := killL z.R L h0 j) (k := j) (by rw [killL_len]; exact hI.l) hlt z0
        have e5 : fwSet H z B2 ((killL z.R L h0 j).set j z0) = P (j + 1) := by rw [ePS]; simp only [killL, kb, if_true]
        have w2 : wr (fwC z (killL z.R L h0 j)) (5 + j * 2) [.b false, .u 0#64] = fwC z ((killL z.R L h0 j).set j z0) := w1
        have g6 : 5 + j * 2 + 2 ≤ 343 := by omega
        (try simp (config := { maxSteps := 10000000 }) only [go_sem, seval, jI, j0, F1, g3, g4, t16, gQ, sQ, c1, ct, c3', gP, sP, lR, w2, e5, g6, Int.toNat_natCast]; repeat (simp (disch := omega) only [w64_d, ipos, ineg, dpos, dneg]; try simp (config := { maxSteps := 10000000 }) only [go_sem, seval, jI, j0, F1, g3, g4, t16, gQ, sQ, c1, ct, c3', gP, sP, lR, w2, e5, g6, Int.toNat_natCast]))
        exact ⟨j + 1, by omega, by omega, wk _ _ _ _ (by simp [lo]) rfl (by simp [Am.get])⟩
      · have kb : killLB z.R L h0 j = false := by unfold killLB; rw [gx, c2, decide_eq_false c3]; simp
        have c3' := decide_eq_false c3
        (try simp (config := { maxSteps := 10000000 }) only [go_sem, seval, jI, j0, F1, g3, g4, t16, gQ, sQ, c1, ct, c3']; repeat (simp (disch := omega) only [w64_d, ipos, ineg, dpos, dneg]; try simp (config := { maxSteps := 10000000 }) only [go_sem, seval, jI, j0, F1, g3, g4, t16, gQ, sQ, c1, ct, c3']))
        exact ⟨j + 1, by omega, by omega, wk _ _ _ _ (by simp [lo]) (sk kb).symm (by simp [Am.get])⟩
end
end
end Go.Proofs.YtcbhelkafelofaaGreat
namespace Go.Proofs.YtcbhelkafelofaaGreat
open Go.Am
set_option linter.unusedSimpArgs false
set_option linter.unusedVariables false
noncomputable section
set_option maxRecDepth 100000

def btsW (B : List Int) (a b : BitVec 64) (c s : Int) : List Int :=
  if c = 0 then (B.drop (offW a)).take s.toNat else (B.drop (offW a)).take c.toNat ++ (B.drop (offW b)).take (s - c).toNat
def wV (z : Fw) (q : Ak) : BitVec 64 := numW (btsW z.B q.a q.b q.c q.s)
def wOk (z : Fw) (h : Int) (q : Ak) : Bool := formB q.k q.a q.c q.s q.op && (hasP z.B.length q.a q.b q.c q.s && (decide (0 ≤ h) && decide (h < z.h)))
def wSc (z : Fw) (h : Int) (q : Ak) : Bool := q.lv && ((z.R.getD h.toNat z0).is && decide ((z.R.getD h.toNat z0).ln = q.a / 64#64))
def wWr (z : Fw) (h : Int) (q : Ak) : Option (BitVec 64) :=
  if wOk z h q = true then
    if q.k = 3 then some q.d else if q.k = 4 then some (amoU q.op (wV z q) q.d) else if q.k = 6 then (if wSc z h q = true then some (lowU q.d (8 * q.s)) else none) else if q.k = 8 then (if wV z q = q.o then some q.d else none) else none
  else none
def wB (z : Fw) (h : Int) (q : Ak) : List Int := match wWr z h q with
  | some v => layP z.B q.a q.b q.c q.s v
  | none => z.B
def wR1 (z : Fw) (h : Int) (q : Ak) : List Sl := match wWr z h q with
  | some _ => killL z.R (linL q.a q.b q.c q.s) h 8
  | none => z.R
def wR (z : Fw) (h : Int) (q : Ak) : List Sl := if wOk z h q = true then (if q.k = 5 then z.R.set h.toNat ⟨true, q.a / 64#64⟩ else if q.k = 6 then (wR1 z h q).set h.toNat z0 else wR1 z h q) else z.R
def wD (z : Fw) (h : Int) (q : Ak) : BitVec 64 := if wOk z h q = true then (if q.k = 3 then 0#64 else if q.k = 6 then 0#64 else wV z q) else 0#64
def wG (z : Fw) (h : Int) (q : Ak) : Bool := if wOk z h q = true then (if q.k = 6 then wSc z h q else if q.k = 8 then decide (wV z q = q.o) else false) else false
theorem form_k {k : Int} {a : BitVec 64} {c s op : Int} (h : formB k a c s op = true) : groupI k = 1 := by
  unfold formB at h
  by_cases h2 : k = 2 ∨ k = 3
  · rcases h2 with rfl | rfl <;> rfl
  · rw [if_neg h2] at h
    simp only [Bool.and_eq_true, decide_eq_true_eq] at h
    have h0 := h.1
    unfold szA at h0
    by_cases h1 : k = 1
    · subst h1; rfl
    by_cases h7 : k = 7
    · subst h7; rfl
    by_cases h8 : k = 8
    · subst h8; rfl
    by_cases h4 : k = 4
    · subst h4; rfl
    by_cases h5 : k = 5
    · subst h5; rfl
    by_cases h6 : k = 6
    · subst h6; rfl
    simp [h1, h7, h8, h4, h5, h6] at h0
section
variable {H : AH}
theorem s_fhart_eq {z : Fw} (hI : FwI H z) {h : Int} : s_fhart [.c (.p z.p 0 0), .c (.i h)] H = some (.c (.b (decide (0 ≤ h) && decide (h < z.h)))) := by
  simp only [s_fhart, hI.o, fwC, wdC]
def s_fmayW (args : List AV) (H : AH) : Option AV :=
  match args with
  | [.c (.p p 0 0), .c (.i h), .g (.i k :: .u a :: .u b :: .i c :: .i s :: .i op :: .u d :: .u o :: .b lv :: r)] =>
    match fwQ H p with
    | some z => if askR r ∧ k ≤ 8 then some (.c (.b (wOk z h ⟨k, a, b, c, s, op, d, o, lv⟩))) else none
    | none => none
  | _ => none
theorem s_fmayW_eq {z : Fw} (hI : FwI H z) {h k : Int} {a b : BitVec 64} {c s op : Int} {d o : BitVec 64} {lv : Bool} {r : List Sc} (hr : askR r) (hk : k ≤ 8) :
    s_fmayW [.c (.p z.p 0 0), .c (.i h), .g (.i k :: .u a :: .u b :: .i c :: .i s :: .i op :: .u d :: .u o :: .b lv :: r)] H = some (.c (.b (wOk z h ⟨k, a, b, c, s, op, d, o, lv⟩))) := by
  simp only [s_fmayW, fwQ_of hI]; rw [if_pos ⟨hr, hk⟩]
theorem pt_ok {B : List Int} {id : Nat} {a b : BitVec 64} {c s : Int} : ∃ x y, ptV id 0 B.length B.length a b c s = .t [.c x, .c y, .c (.b (hasP B.length a b c s))] ∧ (AV.c x).cells = some [x] ∧ (AV.c y).cells = some [y] := by
  unfold ptV hasP
  by_cases c0 : c = 0
  · rw [if_pos c0, if_pos c0]
    cases hasF B.length a s
    · exact ⟨_, _, rfl, rfl, rfl⟩
    · exact ⟨_, _, rfl, rfl, rfl⟩
  · rw [if_neg c0, if_neg c0]
    cases hasF B.length a c
    · exact ⟨_, _, rfl, rfl, rfl⟩
    · cases hasF B.length b (s - c)
      · exact ⟨_, _, rfl, rfl, rfl⟩
      · exact ⟨_, _, rfl, rfl, rfl⟩
set_option maxRecDepth 100000 in
set_option maxHeartbeats 2000000 in
theorem ok_fmayW : FpOk Tryz.prog 15 (fun args H => (s_fmayW args H).map fun v => (v, H)) := by
  refine fq_ok (s := s_fmayW) (tab := [(32, .pu s_egroup), (31, .fq s_fhart), (40, .pu s_fshap), (41, .fq s_fparts)]) hmix (TabOk.cons (e := .pu s_egroup) ok_egroup (TabOk.cons (e := .fq s_fhart) ok_fhart (TabOk.cons (e := .pu s_fshap) ok_fshap (TabOk.cons (e := .fq s_fparts) ok_fparts TabOk.nil)))) Tryz.func15 rfl Tryz.results15 Tryz.ntmps15 (by kernel_rfl) (by kernel_rfl) ?_
  intro args H v h hargs hH
  unfold s_fmayW at h
  split at h <;> try (simp at h; done)
  rename_i p h0 k a b c s op d o lv r
  split at h <;> try (simp at h; done)
  rename_i z hz
  split at h <;> try (simp at h; done)
  rename_i hc
  obtain ⟨hr, hk⟩ := hc
  simp only [Option.some.injEq] at h
  subst h
  obtain ⟨hI, rfl⟩ := fwQ_inv hz
  obtain ⟨lr, pr, ro⟩ := hr
  refine ⟨by simp only [List.length_cons, List.length_nil]; decide, rfl, ?_⟩
  have rt : r.take 10 = r := List.take_of_length_le (by omega)
  have ht := fun X => s_fhart_eq (hI.app X) (h := h0)
  by_cases k1 : k < 1
  · have e : wOk z h0 ⟨k, a, b, c, s, op, d, o, lv⟩ = false := by
      unfold wOk
      cases hf : formB k a c s op
      · rfl
      · have := form_k hf
        unfold groupI at this
        rw [if_pos k1] at this
        omega
    have g0 : groupI k = 0 := by unfold groupI; rw [if_pos k1]
    rw [e]
    (try simp (config := { maxSteps := 10000000 }) only [go_sem, seval, s_egroup_eq, s_fhart_eq, s_fshap_eq, s_fparts_eq, lr, ro, rt, g0]; repeat (simp (disch := omega) only [w64_d, ipos, ineg, dpos, dneg]; try simp (config := { maxSteps := 10000000 }) only [go_sem, seval, s_egroup_eq, s_fhart_eq, s_fshap_eq, s_fparts_eq, lr, ro, rt, g0]))
    exact subH_app _ _
  have g1 : groupI k = 1 := by unfold groupI; rw [if_neg k1, if_pos hk]
  have sh : s_fshap [.g (.i k :: .u a :: .u b :: .i c :: .i s :: .i op :: .u d :: .u o :: .b lv :: r)] = some (.c (.b (formB k a c s op))) := by rw [s_fshap_eq, if_pos ⟨lr, pr, ro⟩]
  obtain ⟨q, hq⟩ : ∃ q : Bool, q = (decide (0 ≤ h0) && decide (h0 < z.h)) := ⟨_, rfl⟩
  rw [← hq] at ht
  cases q with
  | false =>
    have e : wOk z h0 ⟨k, a, b, c, s, op, d, o, lv⟩ = false := by unfold wOk; rw [← hq]; simp
    rw [e]
    (try simp (config := { maxSteps := 10000000 }) only [go_sem, seval, s_egroup_eq, lr, ro, rt, g1, ht]; repeat (simp (disch := omega) only [w64_d, ipos, ineg, dpos, dneg]; try simp (config := { maxSteps := 10000000 }) only [go_sem, seval, s_egroup_eq, lr, ro, rt, g1, ht]))
    exact subH_app _ _
  | true =>
    cases hf : formB k a c s op with
    | false =>
      have e : wOk z h0 ⟨k, a, b, c, s, op, d, o, lv⟩ = false := by unfold wOk; rw [hf]; rfl
      rw [e]
      rw [hf] at sh
      (try simp (config := { maxSteps := 10000000 }) only [go_sem, seval, s_egroup_eq, lr, ro, rt, g1, ht, sh]; repeat (simp (disch := omega) only [w64_d, ipos, ineg, dpos, dneg]; try simp (config := { maxSteps := 10000000 }) only [go_sem, seval, s_egroup_eq, lr, ro, rt, g1, ht, sh]))
      exact subH_app _ _
    | true =>
      have e : wOk z h0 ⟨k, a, b, c, s, op, d, o, lv⟩ = hasP z.B.length a b c s := by unfold wOk; rw [hf, ← hq]; simp
      rw [e]
      rw [hf] at sh
      have hm := p2_sm (b := b) hf
      simp only [smB, decide_eq_true_eq] at hm
      have l14 : (Sc.i op :: .u d :: .u o :: .b lv :: r).length = 14 := by simp [lr]
      have o14 : (Sc.i op :: .u d :: .u o :: .b lv :: r).all Sc.one = true := by simp [Sc.one, ro]
      have pt := fun X => s_fparts_eq (k := k) (a := a) (b := b) (c := c) (s := s) (r := .i op :: .u d :: .u o :: .b lv :: r) (hI.app X).R hI.b0 hI.b1 hm.2.2.1 hm.2.2.2 hm.2.1 l14 o14
      obtain ⟨x, y, ept, x1, y1⟩ := pt_ok (B := z.B) (id := z.id) (a := a) (b := b) (c := c) (s := s)
      simp only [ept] at pt
      simp only [AV.cells] at x1 y1
      (try simp (config := { maxSteps := 10000000 }) only [go_sem, seval, s_egroup_eq, lr, ro, rt, g1, ht, sh, pt, x1, y1]; repeat (simp (disch := omega) only [w64_d, ipos, ineg, dpos, dneg]; try simp (config := { maxSteps := 10000000 }) only [go_sem, seval, s_egroup_eq, lr, ro, rt, g1, ht, sh, pt, x1, y1]))
      exact subH_app _ _
end
end
end Go.Proofs.YtcbhelkafelofaaGreat
