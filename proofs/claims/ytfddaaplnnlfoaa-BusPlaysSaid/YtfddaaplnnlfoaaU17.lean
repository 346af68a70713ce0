/- Layer 17: ports that are the same, copies: contracts. -/
import Derived.Test.YtfddaaplnnlfoaaU16
namespace Go.Proofs.Ytfddaaplnnlfoaa
open Go.Am
set_option linter.unusedSimpArgs false
set_option linter.unusedVariables false
noncomputable section

def numE (t u : Pt) : Bool := decide (t.e = u.e) && (decide (t.l = u.l) && (decide (t.m = u.m) && (decide (t.s = u.s) && (decide (t.dl = u.dl) && (decide (t.dm = u.dm) && (decide (f1 t.ff = f1 u.ff) && (decide (f1 t.lo = f1 u.lo) && decide (f1 t.em = f1 u.em))))))))
def sameT (t u : Pt) : Bool := numE t u && (decide (t.A = u.A) && decide (t.B = u.B))
def s_usame (args : List AV) (H : AH) : Option AV :=
  match args with
  | [.c (.p i 0 0), .c (.p j 0 0)] =>
    match ptD H i, ptD H j with
    | some (t, _, _), some (u, _, _) => if all8 t.A = true ∧ all8 t.B = true ∧ all8 u.A = true ∧ all8 u.B = true then some (.c (.b (sameT t u))) else none
    | _, _ => none
  | _ => none
theorem s_usame_eq {i j : Nat} {H : AH} {t u : Pt} {x y x' y' : Sc} (h1 : ptD H i = some (t, x, y)) (h2 : ptD H j = some (u, x', y')) (h3 : all8 t.A = true ∧ all8 t.B = true ∧ all8 u.A = true ∧ all8 u.B = true) : s_usame [.c (.p i 0 0), .c (.p j 0 0)] H = some (.c (.b (sameT t u))) := by
  simp only [s_usame, h1, h2]; rw [if_pos h3]
set_option maxHeartbeats 4000000 in
set_option maxRecDepth 100000 in
set_option maxHeartbeats 2000000 in
theorem ok_usame : FpOk Try.prog 40 (fun args H => (s_usame args H).map fun v => (v, H)) := by
  refine fq_ok (s := s_usame) (tab := [(73, .fq s_unum), (74, .fq s_bequal)]) hmix (TabOk.cons (e := .fq s_unum) ok_unum (TabOk.cons (e := .fq s_bequal) ok_bequal TabOk.nil)) Try.func40 rfl Try.results40 Try.ntmps40 (by kernel_rfl) (by kernel_rfl) ?_
  intro args H v h hargs hH
  unfold s_usame at h
  split at h
  · rename_i i j
    split at h
    · rename_i t x y u x' y' ht hu
      split at h
      · rename_i hc
        obtain ⟨c1, c2, c3, c4⟩ := hc
        simp only [Option.some.injEq] at h
        subst h
        refine ⟨by simp only [List.length_cons, List.length_nil]; decide, rfl, ?_⟩
        have n1 := s_unum_eq ht
        have n2 := s_unum_eq hu
        obtain ⟨hm, hA, hB⟩ := ptD_inv ht
        obtain ⟨hm2, hA2, hB2⟩ := ptD_inv hu
        have q1 := s_bequal_eq hA hA2 c1 c3
        have q2 := s_bequal_eq hB hB2 c2 c4
        simp only [poC, poOf] at hm hm2
        simp only [numC] at n1 n2
        have ne : numE t u = (decide (t.e = u.e) && (decide (t.l = u.l) && (decide (t.m = u.m) && (decide (t.s = u.s) && (decide (t.dl = u.dl) && (decide (t.dm = u.dm) && (decide (f1 t.ff = f1 u.ff) && (decide (f1 t.lo = f1 u.lo) && decide (f1 t.em = f1 u.em))))))))) := rfl
        unfold sameT
        have ox := sl_one hA
        have oy := sl_one hB
        have ox2 := sl_one hA2
        have oy2 := sl_one hB2
        cases hn : numE t u
        all_goals rw [hn] at ne
        all_goals by_cases hAA : t.A = u.A
        all_goals by_cases hBB : t.B = u.B
        all_goals (try simp (config := { maxSteps := 10000000 }) only [go_sem, seval, hm, hm2, n1, n2, ← ne, q1, q2, hAA, hBB, Bool.false_and, Bool.true_and]; repeat (simp (disch := omega) only [w64_d, ipos, ineg, dpos, dneg]; try simp (config := { maxSteps := 10000000 }) only [go_sem, seval, hm, hm2, n1, n2, ← ne, q1, q2, hAA, hBB, Bool.false_and, Bool.true_and]))
        all_goals first | exact subH_refl _ | exact ⟨by simp, subH_refl _⟩
      · simp at h
    · simp at h
  · simp at h
theorem clone_sl {H X : AH} {x : Sc} {A : List Int} (h : slD 1 dc8 H x = some A) (hb : x.bel H.length = true) (hs : A.length ≤ 1000000) :
    cloneS (H ++ X) x = some (.sl (H.length + X.length) 0 A.length A.length, H ++ (X ++ [.vec 1 (A.flatMap enc8)])) := by
  rcases sl_cases h with ⟨rfl, rfl⟩ | ⟨i, v, rfl, hv, hc⟩
  · simp [cloneS]
  · have li : i < H.length := by simpa [Sc.bel] using hb
    have e : (A.flatMap enc8).take A.length = A.flatMap enc8 := List.take_of_length_le (by rw [e8_len]; exact Nat.le_refl _)
    simp only [cloneS, hg_app li, hc, e8_len, List.drop_zero, e]
    rw [if_pos ⟨hv, by omega, e8_one A, hs⟩]
    simp
def s_uclo (args : List AV) (H : AH) : Option (AV × AH) :=
  match args with
  | [.c (.p id 0 0)] =>
    match ptD H id with
    | some (t, x, y) =>
      if t.A.length ≤ 1000000 ∧ t.B.length ≤ 1000000 then
        some (.c (.p H.length 0 0), H ++ [.own (poC (poOf t (.sl (H.length + 1) 0 t.A.length t.A.length) (.sl (H.length + 2) 0 t.B.length t.B.length))), .vec 1 (t.A.flatMap enc8), .vec 1 (t.B.flatMap enc8)])
      else none
    | none => none
  | _ => none
theorem s_uclo_eq {id : Nat} {H : AH} {t : Pt} {x y : Sc} (h : ptD H id = some (t, x, y)) (h2 : t.A.length ≤ 1000000 ∧ t.B.length ≤ 1000000) :
    s_uclo [.c (.p id 0 0)] H = some (.c (.p H.length 0 0), H ++ [.own (poC (poOf t (.sl (H.length + 1) 0 t.A.length t.A.length) (.sl (H.length + 2) 0 t.B.length t.B.length))), .vec 1 (t.A.flatMap enc8), .vec 1 (t.B.flatMap enc8)]) := by
  simp only [s_uclo, h]; rw [if_pos h2]
theorem len_uclo (args : List AV) (H : AH) (v : AV) (H1 : AH) (h : s_uclo args H = some (v, H1)) : H.length ≤ H1.length := by
  unfold s_uclo at h
  repeat' split at h
  all_goals simp at h
  rw [← h.2]; simp
set_option maxHeartbeats 4000000 in
set_option maxRecDepth 100000 in
set_option maxHeartbeats 2000000 in
theorem ok_uclo : FpOk Try.prog 39 s_uclo := by
  refine fp_ok (s := s_uclo) (tab := [(72, .fp s_uclone)]) hmix (TabOk.cons (e := .fp s_uclone) ok_uclone TabOk.nil) Try.func39 rfl Try.results39 Try.ntmps39 (by kernel_rfl) (by kernel_rfl) len_uclo ?_
  intro args H v H1 h hargs hH
  unfold s_uclo at h
  split at h
  · rename_i id
    split at h
    · rename_i t x y ht
      split at h
      · rename_i hc
        obtain ⟨c1, c2⟩ := hc
        simp only [Option.some.injEq, Prod.mk.injEq] at h
        obtain ⟨rfl, rfl⟩ := h
        refine ⟨by simp only [List.length_cons, List.length_nil]; decide, ?_⟩
        obtain ⟨hm, hA, hB⟩ := ptD_inv ht
        have lid : id < H.length := hg_lt (by rw [hm]; rfl)
        have bel := bel_at hH id
        rw [hm] at bel
        have bx : x.bel H.length = true := by simp only [AObj.cells, AObj.scs, poC, poOf, List.all_cons, Bool.and_eq_true] at bel; exact bel.2.2.2.2.2.2.2.2.2.1
        have bY : y.bel H.length = true := by simp only [AObj.cells, AObj.scs, poC, poOf, List.all_cons, Bool.and_eq_true] at bel; exact bel.2.2.2.2.2.2.2.2.2.2.1
        have q1 := fun X => s_uclone_eq (clone_sl (X := X) hA bx c1)
        have q2 := fun X => s_uclone_eq (clone_sl (X := X) hB bY c2)
        have gx : ∀ X, hg (H ++ X) id = _ := fun X => (hg_app lid).trans hm
        simp only [poC, poOf] at gx hm
        rcases sl_cases hA with ⟨rfl, hA'⟩ | ⟨i, v', rfl, hv, hcs⟩ <;> rcases sl_cases hB with ⟨rfl, hB'⟩ | ⟨i2, v2, rfl, hv2, hcs2⟩
        all_goals (try simp (config := { maxSteps := 10000000 }) only [go_sem, seval, hm, gx, q1, q2]; repeat (simp (disch := omega) only [w64_d, ipos, ineg, dpos, dneg]; try simp (config := { maxSteps := 10000000 }) only [go_sem, seval, hm, gx, q1, q2]))
        all_goals first | simp only [hA', hB'] | skip
        all_goals refine ⟨?_, ?_, ?_, fin_same⟩
        all_goals (repeat' apply And.intro) <;> first | kernel_rfl | (intro e; omega) | (intro _; kernel_rfl)
      · simp at h
    · simp at h
  · simp at h
def sameB (t u : Pt) : Bool := decide (t.e = u.e) && decide (t.l = u.l) && decide (t.m = u.m) && decide (t.s = u.s) && decide (t.dl = u.dl) && decide (t.dm = u.dm) && (t.ff == u.ff) && (t.lo == u.lo) && (t.em == u.em) && decide (t.A = u.A) && decide (t.B = u.B)
def s_rsame (args : List AV) (H : AH) : Option AV :=
  match args with
  | [.g c, .g d] =>
    match rpD H c, rpD H d with
    | some (t, _, _), some (u, _, _) => some (.c (.b (sameB t u)))
    | _, _ => none
  | _ => none
theorem s_rsame_eq {H : AH} {t u : Pt} {x y x' y' : Sc} (h1 : RpOk H t x y) (h2 : RpOk H u x' y') : s_rsame [.g (rpC t x y), .g (rpC u x' y')] H = some (.c (.b (sameB t u))) := by
  simp only [s_rsame, rpD_of h1, rpD_of h2]
set_option maxHeartbeats 8000000 in
set_option maxRecDepth 100000 in
set_option maxHeartbeats 2000000 in
theorem ok_rsame : FpOk Try.prog 57 (fun args H => (s_rsame args H).map fun v => (v, H)) := by
  refine fq_ok (s := s_rsame) (tab := [(56, .fq s_ubytes)]) hmix (TabOk.cons (e := .fq s_ubytes) ok_ubytes TabOk.nil) Try.func57 rfl Try.results57 Try.ntmps57 (by kernel_rfl) (by kernel_rfl) ?_
  intro args H v h hargs hH
  unfold s_rsame at h
  split at h
  · rename_i c d
    split at h
    · rename_i t x y u x' y' ht hu
      obtain ⟨rfl, ok⟩ := rpD_inv ht
      obtain ⟨rfl, ok2⟩ := rpD_inv hu
      simp only [Option.some.injEq] at h
      subst h
      refine ⟨by simp only [List.length_cons, List.length_nil]; decide, rfl, ?_⟩
      have hargs' : (rpC t x y).all (Sc.bel H.length) = true ∧ (rpC u x' y').all (Sc.bel H.length) = true := by
        simp only [List.all_cons, AV.bel, Bool.and_eq_true] at hargs; exact ⟨hargs.1, hargs.2.1⟩
      obtain ⟨bx, bY⟩ := rp_bel hargs'.1
      obtain ⟨bx', bY'⟩ := rp_bel hargs'.2
      have q1 : ∀ X, s_ubytes [.c x, .c x'] (H ++ X) = _ := fun X => s_ubytes_eq (slD_app ok.hx bx) (slD_app ok2.hx bx') ok.la ok2.la
      have q2 : ∀ X, s_ubytes [.c y, .c y'] (H ++ X) = _ := fun X => s_ubytes_eq (slD_app ok.hy bY) (slD_app ok2.hy bY') ok.lb ok2.lb
      by_cases h_e : t.e = u.e
      rotate_left
      · (try simp (config := { maxSteps := 10000000 }) only [go_sem, seval, rpC, h_e]; repeat (simp (disch := omega) only [w64_d, ipos, ineg, dpos, dneg]; try simp (config := { maxSteps := 10000000 }) only [go_sem, seval, rpC, h_e]))
        first | exact subH_app _ _ | exact ⟨by simp [sameB, *], subH_app _ _⟩
      by_cases h_l : t.l = u.l
      rotate_left
      · (try simp (config := { maxSteps := 10000000 }) only [go_sem, seval, rpC, h_e, h_l]; repeat (simp (disch := omega) only [w64_d, ipos, ineg, dpos, dneg]; try simp (config := { maxSteps := 10000000 }) only [go_sem, seval, rpC, h_e, h_l]))
        first | exact subH_app _ _ | exact ⟨by simp [sameB, *], subH_app _ _⟩
      by_cases h_m : t.m = u.m
      rotate_left
      · (try simp (config := { maxSteps := 10000000 }) only [go_sem, seval, rpC, h_e, h_l, h_m]; repeat (simp (disch := omega) only [w64_d, ipos, ineg, dpos, dneg]; try simp (config := { maxSteps := 10000000 }) only [go_sem, seval, rpC, h_e, h_l, h_m]))
        first | exact subH_app _ _ | exact ⟨by simp [sameB, *], subH_app _ _⟩
      by_cases h_s : t.s = u.s
      rotate_left
      · (try simp (config := { maxSteps := 10000000 }) only [go_sem, seval, rpC, h_e, h_l, h_m, h_s]; repeat (simp (disch := omega) only [w64_d, ipos, ineg, dpos, dneg]; try simp (config := { maxSteps := 10000000 }) only [go_sem, seval, rpC, h_e, h_l, h_m, h_s]))
        first | exact subH_app _ _ | exact ⟨by simp [sameB, *], subH_app _ _⟩
      by_cases h_dl : t.dl = u.dl
      rotate_left
      · (try simp (config := { maxSteps := 10000000 }) only [go_sem, seval, rpC, h_e, h_l, h_m, h_s, h_dl]; repeat (simp (disch := omega) only [w64_d, ipos, ineg, dpos, dneg]; try simp (config := { maxSteps := 10000000 }) only [go_sem, seval, rpC, h_e, h_l, h_m, h_s, h_dl]))
        first | exact subH_app _ _ | exact ⟨by simp [sameB, *], subH_app _ _⟩
      by_cases h_dm : t.dm = u.dm
      rotate_left
      · (try simp (config := { maxSteps := 10000000 }) only [go_sem, seval, rpC, h_e, h_l, h_m, h_s, h_dl, h_dm]; repeat (simp (disch := omega) only [w64_d, ipos, ineg, dpos, dneg]; try simp (config := { maxSteps := 10000000 }) only [go_sem, seval, rpC, h_e, h_l, h_m, h_s, h_dl, h_dm]))
        first | exact subH_app _ _ | exact ⟨by simp [sameB, *], subH_app _ _⟩
      by_cases h_ff : t.ff = u.ff
      rotate_left
      · have g_ff : (t.ff == u.ff) = false := by simpa using h_ff
        (try simp (config := { maxSteps := 10000000 }) only [go_sem, seval, rpC, h_e, h_l, h_m, h_s, h_dl, h_dm, g_ff]; repeat (simp (disch := omega) only [w64_d, ipos, ineg, dpos, dneg]; try simp (config := { maxSteps := 10000000 }) only [go_sem, seval, rpC, h_e, h_l, h_m, h_s, h_dl, h_dm, g_ff]))
        first | exact subH_app _ _ | exact ⟨by simp [sameB, *], subH_app _ _⟩
      have g_ff : (t.ff == u.ff) = true := by simpa using h_ff
      by_cases h_lo : t.lo = u.lo
      rotate_left
      · have g_lo : (t.lo == u.lo) = false := by simpa using h_lo
        (try simp (config := { maxSteps := 10000000 }) only [go_sem, seval, rpC, h_e, h_l, h_m, h_s, h_dl, h_dm, g_ff, g_lo]; repeat (simp (disch := omega) only [w64_d, ipos, ineg, dpos, dneg]; try simp (config := { maxSteps := 10000000 }) only [go_sem, seval, rpC, h_e, h_l, h_m, h_s, h_dl, h_dm, g_ff, g_lo]))
        first | exact subH_app _ _ | exact ⟨by simp [sameB, *], subH_app _ _⟩
      have g_lo : (t.lo == u.lo) = true := by simpa using h_lo
      by_cases h_em : t.em = u.em
      rotate_left
      · have g_em : (t.em == u.em) = false := by simpa using h_em
        (try simp (config := { maxSteps := 10000000 }) only [go_sem, seval, rpC, h_e, h_l, h_m, h_s, h_dl, h_dm, g_ff, g_lo, g_em]; repeat (simp (disch := omega) only [w64_d, ipos, ineg, dpos, dneg]; try simp (config := { maxSteps := 10000000 }) only [go_sem, seval, rpC, h_e, h_l, h_m, h_s, h_dl, h_dm, g_ff, g_lo, g_em]))
        first | exact subH_app _ _ | exact ⟨by simp [sameB, *], subH_app _ _⟩
      have g_em : (t.em == u.em) = true := by simpa using h_em
      by_cases hAA : t.A = u.A <;> by_cases hBB : t.B = u.B
      all_goals simp only [hAA, hBB, decide_true, decide_false] at q1 q2
      all_goals simp only [rpC] at *
      all_goals (try simp (config := { maxSteps := 10000000 }) only [go_sem, seval, h_e, h_l, h_m, h_s, h_dl, h_dm, g_ff, g_lo, g_em, q1, q2]; repeat (simp (disch := omega) only [w64_d, ipos, ineg, dpos, dneg]; try simp (config := { maxSteps := 10000000 }) only [go_sem, seval, h_e, h_l, h_m, h_s, h_dl, h_dm, g_ff, g_lo, g_em, q1, q2]))
      all_goals first | exact subH_app _ _ | exact ⟨by simp [sameB, *], subH_app _ _⟩
    · simp at h
  · simp at h
end
end Go.Proofs.Ytfddaaplnnlfoaa
