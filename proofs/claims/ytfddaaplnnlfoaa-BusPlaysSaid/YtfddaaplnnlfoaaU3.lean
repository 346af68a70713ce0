/- Layer 17: bytes that are copied, or go; what a port tells: contracts. -/
import Derived.Test.YtfddaaplnnlfoaaU2
namespace Go.Proofs.Ytfddaaplnnlfoaa
open Go.Am
set_option linter.unusedSimpArgs false
set_option linter.unusedVariables false
noncomputable section

/-- a copy -/
def cloneS (H : AH) (x : Sc) : Option (Sc × AH) :=
  match x with
  | .nils => some (.sl H.length 0 0 0, H ++ [.vec 1 []])
  | .sl i o v n => if v = (hg H i).row ∧ o + n ≤ (hg H i).cells.length ∧ (((hg H i).cells.drop o).take n).all Sc.one = true ∧ n ≤ 1000000 then some (.sl H.length 0 n n, H ++ [.vec 1 (((hg H i).cells.drop o).take n)]) else none
  | _ => none
def s_uclone (args : List AV) (H : AH) : Option (AV × AH) :=
  match args with
  | [.c x] => (cloneS H x).map fun r => (.c r.1, r.2)
  | _ => none
theorem clone_len {H : AH} {x x' : Sc} {H1 : AH} (h : cloneS H x = some (x', H1)) : H.length ≤ H1.length := by
  unfold cloneS at h
  repeat' split at h
  all_goals simp at h
  all_goals rw [← h.2]
  all_goals simp
theorem len_uclone (args : List AV) (H : AH) (v : AV) (H1 : AH) (h : s_uclone args H = some (v, H1)) : H.length ≤ H1.length := by
  unfold s_uclone at h
  split at h
  · rw [Option.map_eq_some_iff] at h
    obtain ⟨r, h1, h2⟩ := h
    simp only [Prod.mk.injEq] at h2
    rw [← h2.2]
    exact clone_len h1
  · simp at h
theorem s_uclone_eq {x x' : Sc} {H H1 : AH} (h : cloneS H x = some (x', H1)) : s_uclone [.c x] H = some (.c x', H1) := by
  simp only [s_uclone, h, Option.map_some]
theorem fin_nil {n : Nat} {H : AH} (hb : belH H = true) (hn : n ≤ H.length) : ∃ v', some (AV.c .nils) = some v' ∧ Wk n [(0, v')] H ([(0, .c (.sl H.length 0 0 0))], H ++ [.vec 1 []]) :=
  ⟨_, rfl, Wk.trans (Wk.nil 0 1 (by decide) rfl hn) (Wk.wk (by simp; omega) (by simp [Am.get]) (by simp [AV.bel, Sc.bel]) (subH_refl _) (belH_app hb (by simp [AObj.cells, AObj.scs])))⟩
set_option maxRecDepth 100000 in
set_option maxHeartbeats 2000000 in
theorem ok_uclone : FpOk Try.prog 72 s_uclone := by
  refine fp_ok (s := s_uclone) (tab := []) hmix TabOk.nil Try.func72 rfl Try.results72 Try.ntmps72 (by kernel_rfl) (by kernel_rfl) len_uclone ?_
  intro args H v H1 h hargs hH
  unfold s_uclone at h
  split at h
  · rename_i x
    rw [Option.map_eq_some_iff] at h
    obtain ⟨⟨x', H2⟩, h1, h2⟩ := h
    simp only [Prod.mk.injEq] at h2
    obtain ⟨rfl, rfl⟩ := h2
    refine ⟨by simp only [List.length_cons, List.length_nil]; decide, ?_⟩
    unfold cloneS at h1
    split at h1
    · simp only [Option.some.injEq, Prod.mk.injEq] at h1
      obtain ⟨rfl, rfl⟩ := h1
      (try simp (config := { maxSteps := 10000000 }) only [go_sem, seval]; repeat (simp (disch := omega) only [w64_d, ipos, ineg, dpos, dneg]; try simp (config := { maxSteps := 10000000 }) only [go_sem, seval]))
      exact fin_nil hH (Nat.le_refl _)
    · rename_i i o v n
      split at h1
      · rename_i hc
        obtain ⟨c1, c2, c3, c4⟩ := hc
        simp only [Option.some.injEq, Prod.mk.injEq] at h1
        obtain ⟨rfl, rfl⟩ := h1
        have li : i < H.length := by simpa [AV.bel, Sc.bel] using hargs
        have gi : ∀ X, hg (H ++ X) i = hg H i := fun X => hg_lt' li
        have c5 : n ≤ 1099511627776 := by omega
        generalize hq : ((hg H i).cells.drop o).take n = q at c3 ⊢
        have lq : q.length = n := by rw [← hq]; simp; omega
        have bq : q.all (Sc.bel H.length) = true := by
          have := bel_at hH i
          rw [← hq]
          exact List.all_eq_true.2 fun s hs => List.all_eq_true.1 this s (List.mem_of_mem_drop (List.mem_of_mem_take hs))
        have fin : ∃ v', some (AV.c (.sl H.length 0 n n)) = some v' ∧ Wk H.length [(0, v')] (H ++ [.vec 1 q]) ([(0, .c (.sl H.length 0 n n))], H ++ [.vec 1 q]) := by
          apply fin_fp
          · simp [AV.bel, Sc.bel]
          · exact subH_refl _
          · refine belH_app hH ?_
            simp only [List.mem_singleton, forall_eq, AObj.cells, AObj.scs]
            exact List.all_eq_true.2 fun s hs => Sc.bel_mono (List.all_eq_true.1 bq s hs) (by simp)
          · simp
        by_cases hz : n = 0
        · subst hz
          obtain rfl : q = [] := List.eq_nil_of_length_eq_zero lq
          (try simp (config := { maxSteps := 10000000 }) only [go_sem, seval, cnd_qq, c1, c2, c3, c5, gi, hq, lq]; repeat (simp (disch := omega) only [w64_d, ipos, ineg, dpos, dneg]; try simp (config := { maxSteps := 10000000 }) only [go_sem, seval, cnd_qq, c1, c2, c3, c5, gi, hq, lq]))
          exact ⟨fin_nil hH (Nat.le_refl _), fin⟩
        · (try simp (config := { maxSteps := 10000000 }) only [go_sem, seval, c1, c2, c3, c5, gi, hq, lq, hz]; repeat (simp (disch := omega) only [w64_d, ipos, ineg, dpos, dneg]; try simp (config := { maxSteps := 10000000 }) only [go_sem, seval, c1, c2, c3, c5, gi, hq, lq, hz]))
          exact fin
      · simp at h1
    · simp at h1
  · simp at h
theorem clone_bel {H : AH} {x x' : Sc} {H1 : AH} (hH : belH H = true) (h : cloneS H x = some (x', H1)) : belH H1 = true ∧ x'.bel H1.length = true ∧ ∃ q, H1 = H ++ [.vec 1 q] := by
  unfold cloneS at h
  split at h
  · simp only [Option.some.injEq, Prod.mk.injEq] at h
    obtain ⟨rfl, rfl⟩ := h
    exact ⟨belH_app hH (by simp [AObj.cells, AObj.scs]), by simp [Sc.bel], _, rfl⟩
  · rename_i i o v n
    split at h
    · simp only [Option.some.injEq, Prod.mk.injEq] at h
      obtain ⟨rfl, rfl⟩ := h
      refine ⟨belH_app hH ?_, by simp [Sc.bel], _, rfl⟩
      simp only [List.mem_singleton, forall_eq, AObj.cells, AObj.scs]
      exact List.all_eq_true.2 fun s hs => Sc.bel_mono (List.all_eq_true.1 (bel_at hH i) s (List.mem_of_mem_drop (List.mem_of_mem_take hs))) (by simp)
    · simp at h
  · simp at h
def s_utake (args : List AV) (H : AH) : Option (AV × AH) :=
  match args with
  | [.c (.p id 0 0)] =>
    match poD (hg H id) with
    | some p =>
      match p.x with
      | .nils => some (.c (.k .u8 0), H)
      | .sl _ 0 _ 0 => some (.c (.k .u8 0), H)
      | .sl i 0 v (n + 1) =>
        match (hg H i).cells with
        | .k .u8 b :: _ =>
          match cloneS H (.sl i 1 v n) with
          | some (x', H1) => some (.c (.k .u8 b), H1.set id (.own (poC { p with x := x' })))
          | none => none
        | _ => none
      | _ => none
    | none => none
  | _ => none
theorem len_utake (args : List AV) (H : AH) (v : AV) (H1 : AH) (h : s_utake args H = some (v, H1)) : H.length ≤ H1.length := by
  unfold s_utake at h
  repeat' split at h
  all_goals simp at h
  · rw [← h.2]; exact Nat.le_refl _
  · rw [← h.2]; exact Nat.le_refl _
  · rename_i hp; rw [← h.2]; simpa using clone_len hp
set_option maxRecDepth 100000 in
set_option maxHeartbeats 2000000 in
theorem ok_utake : FpOk Try.prog 85 s_utake := by
  refine fp_ok (s := s_utake) (tab := [(72, .fp s_uclone)]) hmix (TabOk.cons (e := .fp s_uclone) ok_uclone TabOk.nil) Try.func85 rfl Try.results85 Try.ntmps85 (by kernel_rfl) (by kernel_rfl) len_utake ?_
  intro args H v H1 h hargs hH
  unfold s_utake at h
  split at h
  · rename_i id
    split at h
    · rename_i p hp
      have hm := poD_inv hp
      have lid : id < H.length := hg_lt (by rw [hm]; rfl)
      obtain ⟨bx, by'⟩ := po_bel hH hp
      obtain ⟨e, l, m, s, dl, dm, ff, lo, em, x, y⟩ := p
      simp only at hm bx by' h
      have gx : ∀ X, hg (H ++ X) id = _ := fun X => (hg_lt' lid).trans hm
      have sx : ∀ X o, (H ++ X).set id o = H.set id o ++ X := fun X o => List.set_append_left _ _ lid
      split at h
      · simp only [Option.some.injEq, Prod.mk.injEq] at h
        obtain ⟨rfl, rfl⟩ := h
        refine ⟨by simp only [List.length_cons, List.length_nil]; decide, ?_⟩
        (try simp (config := { maxSteps := 10000000 }) only [go_sem, seval, hm]; repeat (simp (disch := omega) only [w64_d, ipos, ineg, dpos, dneg]; try simp (config := { maxSteps := 10000000 }) only [go_sem, seval, hm]))
        exact fin_fp rfl (subH_refl _) hH (Nat.le_refl _)
      · simp only [Option.some.injEq, Prod.mk.injEq] at h
        obtain ⟨rfl, rfl⟩ := h
        refine ⟨by simp only [List.length_cons, List.length_nil]; decide, ?_⟩
        (try simp (config := { maxSteps := 10000000 }) only [go_sem, seval, hm]; repeat (simp (disch := omega) only [w64_d, ipos, ineg, dpos, dneg]; try simp (config := { maxSteps := 10000000 }) only [go_sem, seval, hm]))
        exact fin_fp rfl (subH_refl _) hH (Nat.le_refl _)
      · rename_i i v n
        split at h
        · rename_i b cs hcs
          split at h
          · rename_i x' H2 hc
            simp only [Option.some.injEq, Prod.mk.injEq] at h
            obtain ⟨rfl, rfl⟩ := h
            refine ⟨by simp only [List.length_cons, List.length_nil]; decide, ?_⟩
            have cq := s_uclone_eq hc
            obtain ⟨bH, bx', q, rfl⟩ := clone_bel hH hc
            have c1 : v = (hg H i).row ∧ 1 + n ≤ (hg H i).cells.length ∧ x' = .sl H.length 0 n n := by
              unfold cloneS at hc
              simp only at hc
              split at hc
              · rename_i h
                simp only [Option.some.injEq, Prod.mk.injEq] at hc
                exact ⟨h.1, h.2.1, hc.1.symm⟩
              · simp at hc
            obtain ⟨c1, c2, rfl⟩ := c1
            rw [hcs] at c2
            rw [c1] at cq
            have e1 : n.succ - 1 = n := rfl
            (try simp (config := { maxSteps := 10000000 }) only [go_sem, seval, hm, c1, c2, hcs, gx, sx, e1, cq]; repeat (simp (disch := omega) only [w64_d, ipos, ineg, dpos, dneg]; try simp (config := { maxSteps := 10000000 }) only [go_sem, seval, hm, c1, c2, hcs, gx, sx, e1, cq]))
            apply fin_fp
            · rfl
            · exact subH_refl _
            · rw [← sx]; exact bel_set' (o := .own (poC ⟨e, l, m, s, dl, dm, ff, lo, em, _, y⟩)) bH (poC_bel (p := ⟨e, l, m, s, dl, dm, ff, lo, em, _, y⟩) bx' (Sc.bel_mono by' (by simp)))
            · simp
          · simp at h
        · simp at h
      · simp at h
    · simp at h
  · simp at h
/-- what offset 2 tells -/
def s_utold (args : List AV) (H : AH) : Option (AV × AH) :=
  match args with
  | [.c (.p id 0 0)] =>
    match poD (hg H id) with
    | some p =>
      match lenS p.x with
      | some n => some (.c (.k .u8 (if p.ff = true then or8 (causeT p n) 192 else causeT p n)), if causeT p n = 2 then H.set id (.own (poC { p with em := false })) else H)
      | none => none
    | none => none
  | _ => none
theorem len_utold (args : List AV) (H : AH) (v : AV) (H1 : AH) (h : s_utold args H = some (v, H1)) : H.length ≤ H1.length := by
  unfold s_utold at h
  repeat' split at h
  all_goals simp at h
  all_goals rw [← h.2]; first | (split <;> simp) | simp
set_option maxRecDepth 100000 in
set_option maxHeartbeats 2000000 in
theorem ok_utold : FpOk Try.prog 86 s_utold := by
  refine fp_ok (s := s_utold) (tab := [(70, .fq s_ucause)]) hmix (TabOk.cons (e := .fq s_ucause) ok_ucause TabOk.nil) Try.func86 rfl Try.results86 Try.ntmps86 (by kernel_rfl) (by kernel_rfl) len_utold ?_
  intro args H v H1 h hargs hH
  unfold s_utold at h
  split at h
  · rename_i id
    split at h
    · rename_i p hp
      split at h
      · rename_i n hn
        have hm := poD_inv hp
        have lid : id < H.length := hg_lt (by rw [hm]; rfl)
        obtain ⟨bx, by'⟩ := po_bel hH hp
        have cc := s_ucause_eq hp hn
        generalize causeT p n = c at h cc
        obtain ⟨e, l, m, s, dl, dm, ff, lo, em, x, y⟩ := p
        simp only at hm bx by' h
        simp only [Option.some.injEq, Prod.mk.injEq] at h
        obtain ⟨rfl, rfl⟩ := h
        refine ⟨by simp only [List.length_cons, List.length_nil]; decide, ?_⟩
        have bb : belH (H.set id (.own (poC ⟨e, l, m, s, dl, dm, ff, lo, false, x, y⟩))) = true := bel_set' hH (poC_bel (p := ⟨e, l, m, s, dl, dm, ff, lo, false, x, y⟩) bx by')
        by_cases h2 : c = 2
        · subst h2
          cases ff
          all_goals (try simp (config := { maxSteps := 10000000 }) only [go_sem, seval, hm, cc, hg_set_same lid]; repeat (simp (disch := omega) only [w64_d, ipos, ineg, dpos, dneg]; try simp (config := { maxSteps := 10000000 }) only [go_sem, seval, hm, cc, hg_set_same lid]))
          all_goals apply fin_fp
          all_goals first | exact bb | exact subH_refl _ | simp [AV.bel, Sc.bel]
        · cases ff
          all_goals (try simp (config := { maxSteps := 10000000 }) only [go_sem, seval, hm, cc, h2]; repeat (simp (disch := omega) only [w64_d, ipos, ineg, dpos, dneg]; try simp (config := { maxSteps := 10000000 }) only [go_sem, seval, hm, cc, h2]))
          all_goals apply fin_fp
          all_goals first | exact hH | exact subH_refl _ | simp [AV.bel, Sc.bel]
      · simp at h
    · simp at h
  · simp at h
/-- what offset 5 tells -/
def stateT (lo : Bool) (n : Nat) : Int := if lo = true then or8 (if 0 < n then or8 96 1 else 96) 2 else (if 0 < n then or8 96 1 else 96)
def s_ustate (args : List AV) (H : AH) : Option (AV × AH) :=
  match args with
  | [.c (.p id 0 0)] =>
    match poD (hg H id) with
    | some p =>
      match lenS p.x with
      | some n => some (.c (.k .u8 (stateT p.lo n)), if p.lo = true then H.set id (.own (poC { p with lo := false })) else H)
      | none => none
    | none => none
  | _ => none
theorem len_ustate (args : List AV) (H : AH) (v : AV) (H1 : AH) (h : s_ustate args H = some (v, H1)) : H.length ≤ H1.length := by
  unfold s_ustate at h
  repeat' split at h
  all_goals simp at h
  all_goals rw [← h.2]; first | (split <;> simp) | simp
set_option maxRecDepth 100000 in
set_option maxHeartbeats 2000000 in
theorem ok_ustate : FpOk Try.prog 87 s_ustate := by
  refine fp_ok (s := s_ustate) (tab := []) hmix TabOk.nil Try.func87 rfl Try.results87 Try.ntmps87 (by kernel_rfl) (by kernel_rfl) len_ustate ?_
  intro args H v H1 h hargs hH
  unfold s_ustate at h
  split at h
  · rename_i id
    split at h
    · rename_i p hp
      split at h
      · rename_i n hn
        have hm := poD_inv hp
        have lid : id < H.length := hg_lt (by rw [hm]; rfl)
        obtain ⟨bx, by'⟩ := po_bel hH hp
        obtain ⟨e, l, m, s, dl, dm, ff, lo, em, x, y⟩ := p
        simp only at hm bx by' h hn
        simp only [Option.some.injEq, Prod.mk.injEq] at h
        obtain ⟨rfl, rfl⟩ := h
        refine ⟨by simp only [List.length_cons, List.length_nil]; decide, ?_⟩
        have bb : belH (H.set id (.own (poC ⟨e, l, m, s, dl, dm, ff, false, em, x, y⟩))) = true := bel_set' hH (poC_bel (p := ⟨e, l, m, s, dl, dm, ff, false, em, x, y⟩) bx by')
        rcases lenS_inv hn with ⟨rfl, rfl⟩ | ⟨i, o, v, rfl⟩
        · cases lo
          · (try simp (config := { maxSteps := 10000000 }) only [go_sem, seval, hm]; repeat (simp (disch := omega) only [w64_d, ipos, ineg, dpos, dneg]; try simp (config := { maxSteps := 10000000 }) only [go_sem, seval, hm]))
            exact fin_fp rfl (subH_refl _) hH (Nat.le_refl _)
          · (try simp (config := { maxSteps := 10000000 }) only [go_sem, seval, hm]; repeat (simp (disch := omega) only [w64_d, ipos, ineg, dpos, dneg]; try simp (config := { maxSteps := 10000000 }) only [go_sem, seval, hm]))
            exact fin_fp rfl (subH_refl _) bb (by simp)
        · by_cases hz : 0 < n
          all_goals cases lo
          all_goals (try simp (config := { maxSteps := 10000000 }) only [go_sem, seval, hm, hz, stateT]; repeat (simp (disch := omega) only [w64_d, ipos, ineg, dpos, dneg]; try simp (config := { maxSteps := 10000000 }) only [go_sem, seval, hm, hz, stateT]))
          all_goals apply fin_fp
          all_goals first | exact hH | exact bb | exact subH_refl _ | simp [AV.bel, Sc.bel]
      · simp at h
    · simp at h
  · simp at h
/-- what offset 6 tells -/
def shl8 (a : Int) (n : Nat) : Int := IntKind.u8.wrap (a * 2 ^ (min n 8))
def shr8 (a : Int) (n : Nat) : Int := a / 2 ^ (min n 8)
section
variable {P : Program} {t : Nat} {x : Int} {y : BitVec 64}
theorem a8_shl : abin P .shl t (.c (.k .u8 x)) (.c (.u y)) = some (.c (.k .u8 (shl8 x y.toNat))) := rfl
theorem a8_shr : abin P .shr t (.c (.k .u8 x)) (.c (.u y)) = some (.c (.k .u8 (shr8 x y.toNat))) := rfl
end
attribute [go_sem 1100] a8_shl a8_shr
def modemT (m : Int) : Int :=
  if an8 m 16 = 0 then 176 else or8 (or8 (or8 (shl8 (an8 (shr8 m 1) 1) 4) (shl8 (an8 m 1) 5)) (shl8 (an8 (shr8 m 2) 1) 6)) (shl8 (an8 (shr8 m 3) 1) 7)
def s_umodem (args : List AV) (H : AH) : Option AV :=
  match args with
  | [.c (.p id 0 0)] =>
    match poD (hg H id) with
    | some p => some (.c (.k .u8 (modemT p.m)))
    | none => none
  | _ => none
theorem s_umodem_eq {id : Nat} {H : AH} {p : Po} (h : poD (hg H id) = some p) : s_umodem [.c (.p id 0 0)] H = some (.c (.k .u8 (modemT p.m))) := by
  simp only [s_umodem, h]
set_option maxRecDepth 100000 in
set_option maxHeartbeats 2000000 in
theorem ok_umodem : FpOk Try.prog 88 (fun args H => (s_umodem args H).map fun v => (v, H)) := by
  refine fq_ok (s := s_umodem) (tab := []) hmix TabOk.nil Try.func88 rfl Try.results88 Try.ntmps88 (by kernel_rfl) (by kernel_rfl) ?_
  intro args H v h hargs hH
  unfold s_umodem at h
  split at h
  · rename_i id
    split at h
    · rename_i p hp
      have hm := poD_inv hp
      simp only [Option.some.injEq] at h
      subst h
      refine ⟨by simp only [List.length_cons, List.length_nil]; decide, rfl, ?_⟩
      obtain ⟨e, l, m, s, dl, dm, ff, lo, em, x, y⟩ := p
      simp only at hm ⊢
      by_cases h0 : an8 m 16 = 0
      all_goals (try simp (config := { maxSteps := 10000000 }) only [go_sem, seval, hm, modemT, h0]; repeat (simp (disch := omega) only [w64_d, ipos, ineg, dpos, dneg]; try simp (config := { maxSteps := 10000000 }) only [go_sem, seval, hm, modemT, h0]))
      all_goals first | exact subH_refl _ | exact ⟨rfl, subH_refl _⟩
    · simp at h
  · simp at h
end
end Go.Proofs.Ytfddaaplnnlfoaa
