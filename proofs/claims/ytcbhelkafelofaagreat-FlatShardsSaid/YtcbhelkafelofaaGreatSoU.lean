/- slices.Sort and slices.Compact of at most 12 uint64s: contracts. -/
import Derived.Test.YtcbhelkafelofaaGreatSo
namespace Go.Proofs.YtcbhelkafelofaaGreat
open Go.Am
set_option linter.unusedSimpArgs false
set_option linter.unusedVariables false
noncomputable section

def ltU (x y : (BitVec 64)) : Bool := decide (x < y)
def s_nanU (args : List AV) : Option AV :=
  match args with
  | [.c (.u x)] => some (.c (.b false))
  | _ => none
theorem s_nanU_eq {x} : s_nanU [.c (.u x)] = some (.c (.b false)) := rfl
set_option maxRecDepth 100000 in
set_option maxHeartbeats 2000000 in
theorem ok_nanU : PuOk Tryz.prog 164 s_nanU := by
  refine pu_ok (tab := []) hmix TabOk.nil Tryz.func164 rfl Tryz.results164 Tryz.ntmps164 (by kernel_rfl) (by kernel_rfl) ?_
  intro args v h
  unfold s_nanU at h
  split at h
  · rename_i x
    simp only [Option.some.injEq] at h; subst h
    refine ⟨by simp only [List.length_cons, List.length_nil]; decide, rfl, rfl, ?_⟩
    (try simp (config := { maxSteps := 10000000 }) only [go_sem, seval]; repeat (simp (disch := omega) only [w64_d, ipos, ineg, dpos, dneg]; try simp (config := { maxSteps := 10000000 }) only [go_sem, seval]))
  · simp at h
def s_lessU (args : List AV) : Option AV :=
  match args with
  | [.c (.u x), .c (.u y)] => some (.c (.b (decide (x < y))))
  | _ => none
theorem s_lessU_eq {x y} : s_lessU [.c (.u x), .c (.u y)] = some (.c (.b (decide (x < y)))) := rfl
set_option maxRecDepth 100000 in
set_option maxHeartbeats 2000000 in
theorem ok_lessU : PuOk Tryz.prog 154 s_lessU := by
  refine pu_ok (tab := [(164, .pu s_nanU)]) hmix (TabOk.cons (e := .pu s_nanU) ok_nanU TabOk.nil) Tryz.func154 rfl Tryz.results154 Tryz.ntmps154 (by kernel_rfl) (by kernel_rfl) ?_
  intro args v h
  unfold s_lessU at h
  split at h
  · rename_i x y
    simp only [Option.some.injEq] at h; subst h
    refine ⟨by simp only [List.length_cons, List.length_nil]; decide, rfl, rfl, ?_⟩
    (try simp (config := { maxSteps := 10000000 }) only [go_sem, seval, s_nanU_eq]; repeat (simp (disch := omega) only [w64_d, ipos, ineg, dpos, dneg]; try simp (config := { maxSteps := 10000000 }) only [go_sem, seval, s_nanU_eq]))
  · simp at h
def s_isrtU (args : List AV) (H : AH) : Option (AV × AH) :=
  match args with
  | [.c x, .c (.i 0), .c (.i n)] =>
    match vecD dcU H x with
    | some A => if n = A.length ∧ A.length ≤ 12 then some (.t [], putV H x ((srt ltU A).map gU)) else none
    | none => none
  | _ => none
theorem len_isrtU (args : List AV) (H : AH) (v : AV) (H1 : AH) (h : s_isrtU args H = some (v, H1)) : H.length ≤ H1.length := by
  unfold s_isrtU at h
  repeat' split at h
  all_goals simp at h
  rw [← h.2, putV_len]; exact Nat.le_refl _
theorem s_isrtU_eq {H : AH} {x : Sc} {A : List (BitVec 64)} {n : Int} (hA : vecD dcU H x = some A) (hn : n = A.length) (hl : A.length ≤ 12) : s_isrtU [.c x, .c (.i 0), .c (.i n)] H = some (.t [], putV H x ((srt ltU A).map gU)) := by
  simp only [s_isrtU, hA, hn, hl, and_self, if_true]
set_option maxHeartbeats 4000000 in
set_option maxRecDepth 100000 in
set_option maxHeartbeats 2000000 in
theorem ok_isrtU : FpOk Tryz.prog 148 s_isrtU := by
  refine fp_ok (s := s_isrtU) (tab := [(154, .pu s_lessU)]) hmix (TabOk.cons (e := .pu s_lessU) ok_lessU TabOk.nil) Tryz.func148 rfl Tryz.results148 Tryz.ntmps148 (by kernel_rfl) (by kernel_rfl) len_isrtU ?_
  intro args H v H1 h hargs hH
  unfold s_isrtU at h
  split at h
  · rename_i x n
    split at h
    · rename_i A hA
      split at h
      · rename_i hc
        obtain ⟨rfl, hl⟩ := hc
        simp only [Option.some.injEq, Prod.mk.injEq] at h
        obtain ⟨rfl, rfl⟩ := h
        refine ⟨by simp only [List.length_cons, List.length_nil]; decide, ?_⟩
        rcases vecD_inv gU_d hA with ⟨rfl, rfl⟩ | ⟨id, rfl, ho⟩
        · (try simp (config := { maxSteps := 10000000 }) only [go_sem, seval, List.length_nil]; repeat (simp (disch := omega) only [w64_d, ipos, ineg, dpos, dneg]; try simp (config := { maxSteps := 10000000 }) only [go_sem, seval, List.length_nil]))
          refine arun_for 0 (fun _ => ([(0, .c .nils), (1, .c (.i 0)), (2, .c (.i 0)), (6, .c (.i 1))], H)) ?_ fun j hj => ?_
          · exact Wk.wk (Nat.le_refl _) (by simp [Am.get]) (by rfl) (subH_refl _) hH
          · (try simp (config := { maxSteps := 10000000 }) only [go_sem, seval]; repeat (simp (disch := omega) only [w64_d, ipos, ineg, dpos, dneg]; try simp (config := { maxSteps := 10000000 }) only [go_sem, seval]))
            exact fin_fp rfl (subH_refl _) hH (Nat.le_refl _)
        · have lid : id < H.length := hg_lt (by rw [ho]; rfl)
          let O : List (BitVec 64) → AH := fun L => H.set id (.vec 1 (L.map gU))
          have gO : ∀ L, hg (O L) id = .vec 1 (L.map gU) := fun L => hg_set_same lid
          have sO : ∀ L M, (O L).set id (.vec 1 (M.map gU)) = O M := fun L M => List.set_set ..
          have lO : ∀ L, (O L).length = H.length := fun L => List.length_set
          have bO : ∀ L, belH (O L) = true := fun L => bel_set' hH (map_bel gU_num L _)
          have h1 : O A = H := set_self ho lid
          have fin : putV H (.sl id 0 A.length A.length) ((srt ltU A).map gU) = O (srt ltU A) := rfl
          rw [fin]
          clear_value O
          (try simp (config := { maxSteps := 10000000 }) only [go_sem, seval]; repeat (simp (disch := omega) only [w64_d, ipos, ineg, dpos, dneg]; try simp (config := { maxSteps := 10000000 }) only [go_sem, seval]))
          refine arun_for (A.length - 1) (fun j => ([(0, .c (.sl id 0 A.length A.length)), (1, .c (.i 0)), (2, .c (.i A.length)), (6, .c (.i (j + 1 : Nat)))], O (rwS ltU A (j + 1)))) ?_ fun j hj => ?_
          · rw [rwS_1, h1]
            exact Wk.wk (Nat.le_refl _) (by simp [Am.get]) (by simp [AV.bel, Sc.bel, lid]) (subH_refl _) hH
          · by_cases hlt : j + 1 < A.length
            · obtain ⟨a, ha⟩ : ∃ a, A[j + 1]? = some a := ⟨_, List.getElem?_eq_getElem hlt⟩
              have ec : ((j + 1 : Nat) : Int) < A.length := by omega
              (try simp (config := { maxSteps := 10000000 }) only [go_sem, seval, ec]; repeat (simp (disch := omega) only [w64_d, ipos, ineg, dpos, dneg]; try simp (config := { maxSteps := 10000000 }) only [go_sem, seval, ec]))
              have lP : (preS ltU A (j + 1)).length = j + 1 := preS_len (by omega)
              have kP := insK_le (lt := ltU) (x := a) (P := preS ltU A (j + 1))
              rw [rwS_mv ha]
              refine arun_for (insK ltU a (preS ltU A (j + 1))) (fun k => ([(0, .c (.sl id 0 A.length A.length)), (1, .c (.i 0)), (2, .c (.i A.length)), (6, .c (.i (j + 1 : Nat))), (7, .c (.i (j + 1 - k : Nat)))], O (mvS (preS ltU A (j + 1)) a (A.drop (j + 2)) k))) ?_ fun k hk => ?_
              · exact Wk.wk (by simp [lo, lO]) (by simp [Am.get]) (by simp [AV.bel, Sc.bel, lid, lO]) (subH_refl _) (bO _)
              · have lM : (mvS (preS ltU A (j + 1)) a (A.drop (j + 2)) k).length = A.length := by rw [mvS_len, lP]; simp; omega
                by_cases hz : k < j + 1
                · obtain ⟨y, hy⟩ : ∃ y, (preS ltU A (j + 1))[(preS ltU A (j + 1)).length - 1 - k]? = some y := ⟨_, List.getElem?_eq_getElem (by omega)⟩
                  have m1 := mvS_x (R := A.drop (j + 2)) (x := a) (k := k) (P := preS ltU A (j + 1)) (by omega)
                  have m2 := mvS_y (R := A.drop (j + 2)) (x := a) (k := k) (P := preS ltU A (j + 1)) (by omega)
                  have st := mvS_step (R := A.drop (j + 2)) (x := a) (k := k) (P := preS ltU A (j + 1)) (by omega) hy
                  have kg := insK_get (lt := ltU) (x := a) (P := preS ltU A (j + 1)) (k := k) (y := y)
                  have ke := insK_end (lt := ltU) (x := a) (P := preS ltU A (j + 1)) (y := y)
                  have en := rwS_end (lt := ltU) ha
                  rw [hy] at m2
                  rw [lP] at m1 m2 st
                  have w1 : w64 ((j + 1 - k : Nat) - 1) = ((j + 1 - k - 1 : Nat) : Int) := by rw [w64_d (by omega) (by omega)]; omega
                  generalize hL : mvS (preS ltU A (j + 1)) a (A.drop (j + 2)) k = L at *
                  generalize hq : j + 1 - k = q at *
                  have q0 : (0 : Int) < q := by omega
                  have q1 : (q : Int) < A.length := by omega
                  have q2 : ((q - 1 : Nat) : Int) < A.length := by omega
                  have q3 : (0 : Int) ≤ ((q - 1 : Nat) : Int) := by omega
                  have q4 : (0 : Int) ≤ (q : Int) := by omega
                  have q5 : q + 1 ≤ A.length := by omega
                  have q6 : q - 1 + 1 ≤ A.length := by omega
                  have c1 := map_getD (g := gU) m1
                  have c2 := map_getD (g := gU) m2
                  have r1 : wr (L.map gU) q [.u y] = (L.set q y).map gU := wr_map (g := gU) (by omega)
                  have r2 : wr ((L.set q y).map gU) (q - 1) [.u a] = ((L.set q y).set (q - 1) a).map gU := wr_map (g := gU) (by simp; omega)
                  (try simp (config := { maxSteps := 10000000 }) only [go_sem, seval, s_lessU_eq, w1, q0, q1, q2, q3, q4, q5, q6, gO, lM, List.length_map, Int.toNat_natCast, c1, c2, gU]; repeat (simp (disch := omega) only [w64_d, ipos, ineg, dpos, dneg]; try simp (config := { maxSteps := 10000000 }) only [go_sem, seval, s_lessU_eq, w1, q0, q1, q2, q3, q4, q5, q6, gO, lM, List.length_map, Int.toNat_natCast, c1, c2, gU]))
                  by_cases hk2 : k < insK ltU a (preS ltU A (j + 1))
                  · have dy : a < y := by
                      have := kg hk2 (by rw [← hy])
                      simpa [ltU] using this
                    (try simp (config := { maxSteps := 10000000 }) only [go_sem, seval, s_lessU_eq, dy, w1, q0, q1, q2, q3, q4, q5, q6, gO, sO, lM, List.length_map, List.length_set, Int.toNat_natCast, c1, c2, r1, r2, gU]; repeat (simp (disch := omega) only [w64_d, ipos, ineg, dpos, dneg]; try simp (config := { maxSteps := 10000000 }) only [go_sem, seval, s_lessU_eq, dy, w1, q0, q1, q2, q3, q4, q5, q6, gO, sO, lM, List.length_map, List.length_set, Int.toNat_natCast, c1, c2, r1, r2, gU]))
                    refine ⟨by repeat' first | apply And.intro | (intro _; kernel_rfl), ?_⟩
                    (try simp (config := { maxSteps := 10000000 }) only [go_sem, seval, s_lessU_eq, dy, w1, q0, q1, q2, q3, q4, q5, q6, gO, sO, lM, List.length_map, List.length_set, Int.toNat_natCast, c1, c2, r1, r2, gU, st]; repeat (simp (disch := omega) only [w64_d, ipos, ineg, dpos, dneg]; try simp (config := { maxSteps := 10000000 }) only [go_sem, seval, s_lessU_eq, dy, w1, q0, q1, q2, q3, q4, q5, q6, gO, sO, lM, List.length_map, List.length_set, Int.toNat_natCast, c1, c2, r1, r2, gU, st]))
                    refine ⟨by repeat' first | apply And.intro | (intro _; kernel_rfl), k + 1, by omega, by omega, Wk.wk (by simp [lo, lO]) ?_ (by simp [AV.bel, Sc.bel, lid, lO]) (subH_refl _) (bO _)⟩
                    have w2 : j + 1 - (k + 1) = q - 1 := by omega
                    simp [Am.get, w2]
                  · obtain rfl : k = insK ltU a (preS ltU A (j + 1)) := by omega
                    have dy : ¬ a < y := by
                      have := ke (by omega) (by rw [← hy])
                      simpa [ltU] using this
                    (try simp (config := { maxSteps := 10000000 }) only [go_sem, seval, s_lessU_eq, dy, w1]; repeat (simp (disch := omega) only [w64_d, ipos, ineg, dpos, dneg]; try simp (config := { maxSteps := 10000000 }) only [go_sem, seval, s_lessU_eq, dy, w1]))
                    rw [← hL, en]
                    refine ⟨j + 1, by omega, by omega, Wk.wk (by simp [lo, lO]) ?_ (by simp [AV.bel, Sc.bel, lid, lO]) (subH_refl _) (bO _)⟩
                    simp [Am.get]
                · have hq : j + 1 - k = 0 := by omega
                  obtain rfl : k = insK ltU a (preS ltU A (j + 1)) := by omega
                  have en := rwS_end (lt := ltU) ha
                  (try simp (config := { maxSteps := 10000000 }) only [go_sem, seval, s_lessU_eq, hq, Int.natCast_zero]; repeat (simp (disch := omega) only [w64_d, ipos, ineg, dpos, dneg]; try simp (config := { maxSteps := 10000000 }) only [go_sem, seval, s_lessU_eq, hq, Int.natCast_zero]))
                  rw [en]
                  refine ⟨j + 1, by omega, by omega, Wk.wk (by simp [lo, lO]) ?_ (by simp [AV.bel, Sc.bel, lid, lO]) (subH_refl _) (bO _)⟩
                  simp [Am.get]
            · have ec : ¬ ((j + 1 : Nat) : Int) < A.length := by omega
              have e2 : rwS ltU A (j + 1) = srt ltU A := by
                rcases Nat.lt_or_ge 0 A.length with h0 | h0
                · rw [show j + 1 = A.length by omega, rwS_all]
                · obtain rfl : A = [] := List.eq_nil_of_length_eq_zero (by omega)
                  obtain rfl : j = 0 := by simpa using hj
                  rfl
              (try simp (config := { maxSteps := 10000000 }) only [go_sem, seval, ec, e2]; repeat (simp (disch := omega) only [w64_d, ipos, ineg, dpos, dneg]; try simp (config := { maxSteps := 10000000 }) only [go_sem, seval, ec, e2]))
              exact fin_fp rfl (subH_refl _) (bO _) (by rw [lO]; exact Nat.le_refl _)
      · simp at h
    · simp at h
  · simp at h
def s_pdqU (args : List AV) (H : AH) : Option (AV × AH) :=
  match args with
  | [.c x, .c (.i 0), .c (.i n), .c (.i _)] => s_isrtU [.c x, .c (.i 0), .c (.i n)] H
  | _ => none
theorem len_pdqU (args : List AV) (H : AH) (v : AV) (H1 : AH) (h : s_pdqU args H = some (v, H1)) : H.length ≤ H1.length := by
  unfold s_pdqU at h
  split at h
  · exact len_isrtU _ _ _ _ h
  · simp at h
theorem s_pdqU_eq {H : AH} {x : Sc} {A : List (BitVec 64)} {n m : Int} (hA : vecD dcU H x = some A) (hn : n = A.length) (hl : A.length ≤ 12) : s_pdqU [.c x, .c (.i 0), .c (.i n), .c (.i m)] H = some (.t [], putV H x ((srt ltU A).map gU)) := s_isrtU_eq hA hn hl
theorem isrtU_inv {H H1 : AH} {x : Sc} {n : Int} {v : AV} (h : s_isrtU [.c x, .c (.i 0), .c (.i n)] H = some (v, H1)) : ∃ A, vecD dcU H x = some A ∧ n = A.length ∧ A.length ≤ 12 ∧ v = .t [] ∧ H1 = putV H x ((srt ltU A).map gU) := by
  simp only [s_isrtU] at h
  split at h
  · rename_i A hA
    split at h
    · rename_i hc
      simp only [Option.some.injEq, Prod.mk.injEq] at h
      exact ⟨A, hA, hc.1, hc.2, h.1.symm, h.2.symm⟩
    · simp at h
  · simp at h
theorem srtVU_bel {H : AH} {x : Sc} {A B : List (BitVec 64)} (hH : belH H = true) (hA : vecD dcU H x = some A) : belH (putV H x (B.map gU)) = true := by
  rcases vecD_inv gU_d hA with ⟨rfl, rfl⟩ | ⟨id, rfl, ho⟩
  · exact hH
  · exact bel_set' hH (map_bel gU_num B _)
theorem vecU_bel {H : AH} {x : Sc} {A : List (BitVec 64)} (hA : vecD dcU H x = some A) : x.bel H.length = true := by
  rcases vecD_inv gU_d hA with ⟨rfl, rfl⟩ | ⟨id, rfl, ho⟩
  · rfl
  · simpa [Sc.bel] using hg_lt (H := H) (i := id) (by rw [ho]; rfl)
set_option maxRecDepth 100000 in
set_option maxHeartbeats 2000000 in
theorem ok_pdqU : FpOk Tryz.prog 145 s_pdqU := by
  refine fp_ok (s := s_pdqU) (tab := [(148, .fp s_isrtU)]) hmix (TabOk.cons (e := .fp s_isrtU) ok_isrtU TabOk.nil) Tryz.func145 rfl Tryz.results145 Tryz.ntmps145 (by kernel_rfl) (by kernel_rfl) len_pdqU ?_
  intro args H v H1 h hargs hH
  unfold s_pdqU at h
  split at h
  · rename_i x n m
    have h0 := h
    obtain ⟨A, hA, rfl, hl, rfl, rfl⟩ := isrtU_inv h
    refine ⟨by simp only [List.length_cons, List.length_nil]; decide, ?_⟩
    (try simp (config := { maxSteps := 10000000 }) only [go_sem, seval]; repeat (simp (disch := omega) only [w64_d, ipos, ineg, dpos, dneg]; try simp (config := { maxSteps := 10000000 }) only [go_sem, seval]))
    refine arun_for 0 (fun _ => ([(0, .c x), (1, .c (.i 0)), (2, .c (.i A.length))], H)) ?_ fun j hj => ?_
    · exact Wk.wk (Nat.le_refl _) (by simp [Am.get]) (by simp only [List.all_cons, List.all_nil, AV.bel, vecU_bel hA]; rfl) (subH_refl _) hH
    · have w1 : w64 ((A.length : Int) - 0) = A.length := by rw [w64_d (by omega) (by omega)]; omega
      have c1 : (A.length : Int) ≤ 12 := by omega
      (try simp (config := { maxSteps := 10000000 }) only [go_sem, seval, w1, c1, h0]; repeat (simp (disch := omega) only [w64_d, ipos, ineg, dpos, dneg]; try simp (config := { maxSteps := 10000000 }) only [go_sem, seval, w1, c1, h0]))
      exact fin_fp rfl (subH_refl _) (srtVU_bel hH hA) (by rw [putV_len]; exact Nat.le_refl _)
  · simp at h
def s_sortU (args : List AV) (H : AH) : Option (AV × AH) :=
  match args with
  | [.c x] =>
    match vecD dcU H x with
    | some A => if A.length ≤ 12 then some (.t [], putV H x ((srt ltU A).map gU)) else none
    | none => none
  | _ => none
theorem len_sortU (args : List AV) (H : AH) (v : AV) (H1 : AH) (h : s_sortU args H = some (v, H1)) : H.length ≤ H1.length := by
  unfold s_sortU at h
  repeat' split at h
  all_goals simp at h
  rw [← h.2, putV_len]; exact Nat.le_refl _
theorem s_sortU_eq {H : AH} {x : Sc} {A : List (BitVec 64)} (hA : vecD dcU H x = some A) (hl : A.length ≤ 12) : s_sortU [.c x] H = some (.t [], putV H x ((srt ltU A).map gU)) := by
  simp only [s_sortU, hA, hl, if_true]
set_option maxRecDepth 100000 in
set_option maxHeartbeats 2000000 in
theorem ok_sortU : FpOk Tryz.prog 128 s_sortU := by
  refine fp_ok (s := s_sortU) (tab := [(146, .pu s_blen), (145, .fp s_pdqU)]) hmix (TabOk.cons (e := .pu s_blen) ok_blen (TabOk.cons (e := .fp s_pdqU) ok_pdqU TabOk.nil)) Tryz.func128 rfl Tryz.results128 Tryz.ntmps128 (by kernel_rfl) (by kernel_rfl) len_sortU ?_
  intro args H v H1 h hargs hH
  unfold s_sortU at h
  split at h
  · rename_i x
    split at h
    · rename_i A hA
      split at h
      · rename_i hl
        simp only [Option.some.injEq, Prod.mk.injEq] at h
        obtain ⟨rfl, rfl⟩ := h
        refine ⟨by simp only [List.length_cons, List.length_nil]; decide, ?_⟩
        have xl : ∀ e, lenB (.sl e) (.c x) = some (.c (.i A.length)) := by
          intro e
          rcases vecD_inv gU_d hA with ⟨rfl, rfl⟩ | ⟨id2, rfl, ho⟩ <;> rfl
        have xa : ∀ (l : Array Operand) (ts : List Nat) (t : Nat) (tab : Tab), astep Tryz.prog tab (.call ⟨.builtin .len, l, (t :: ts).toArray⟩) [.c x] H = (lenA Tryz.prog t (.c x)).map fun v => (v, H) := by
          intro l ts t tab
          rcases vecD_inv gU_d hA with ⟨rfl, rfl⟩ | ⟨id2, rfl, ho⟩
          · exact as_len_nils
          · exact as_len_sl
        have xb : tcM [.c x] = .no := by
          rcases vecD_inv gU_d hA with ⟨rfl, rfl⟩ | ⟨id2, rfl, ho⟩ <;> rfl
        have e1 : (BitVec.ofInt 64 (A.length : Int)).toNat ≤ 12 := by rw [BitVec.toNat_ofInt]; omega
        have p1 := fun m => s_pdqU_eq (m := m) hA rfl hl
        (try simp (config := { maxSteps := 10000000 }) only [go_sem, seval, s_blen_eq, s_pdqU_eq, xa, xb, xl, e1, p1]; repeat (simp (disch := omega) only [w64_d, ipos, ineg, dpos, dneg]; try simp (config := { maxSteps := 10000000 }) only [go_sem, seval, s_blen_eq, s_pdqU_eq, xa, xb, xl, e1, p1]))
        exact fin_fp rfl (subH_refl _) (srtVU_bel hH hA) (by rw [putV_len]; exact Nat.le_refl _)
      · simp at h
    · simp at h
  · simp at h
def cmpCU (A : List (BitVec 64)) : List Sc := (ddp A).map gU ++ List.replicate (A.length - (ddp A).length) (gU 0#64)
def cmpU (H : AH) (x : Sc) (A : List (BitVec 64)) : Sc × AH :=
  if (ddp A).length = A.length then (x, H)
  else match x with
    | .sl id o v _ => (.sl id o v (ddp A).length, H.set id (.vec 1 (cmpCU A)))
    | x => (x, H)
def s_cmpU (args : List AV) (H : AH) : Option (AV × AH) :=
  match args with
  | [.c x] =>
    match vecD dcU H x with
    | some A => if A.length ≤ 12 then some (.c (cmpU H x A).1, (cmpU H x A).2) else none
    | none => none
  | _ => none
theorem cmpU_len {H : AH} {x : Sc} {A : List (BitVec 64)} : (cmpU H x A).2.length = H.length := by
  unfold cmpU
  repeat' split
  all_goals simp
theorem len_cmpU (args : List AV) (H : AH) (v : AV) (H1 : AH) (h : s_cmpU args H = some (v, H1)) : H.length ≤ H1.length := by
  unfold s_cmpU at h
  repeat' split at h
  all_goals simp at h
  rw [← h.2, cmpU_len]; exact Nat.le_refl _
theorem s_cmpU_eq {H : AH} {x : Sc} {A : List (BitVec 64)} (hA : vecD dcU H x = some A) (hl : A.length ≤ 12) : s_cmpU [.c x] H = some (.c (cmpU H x A).1, (cmpU H x A).2) := by
  simp only [s_cmpU, hA, hl, if_true]
set_option maxHeartbeats 8000000 in
set_option maxRecDepth 100000 in
set_option maxHeartbeats 2000000 in
theorem ok_cmpU : FpOk Tryz.prog 129 s_cmpU := by
  refine fp_ok (s := s_cmpU) (tab := []) hmix TabOk.nil Tryz.func129 rfl Tryz.results129 Tryz.ntmps129 (by kernel_rfl) (by kernel_rfl) len_cmpU ?_
  intro args H v H1 h hargs hH
  unfold s_cmpU at h
  split at h
  · rename_i x
    split at h
    · rename_i A hA
      split at h
      · rename_i hl
        simp only [Option.some.injEq, Prod.mk.injEq] at h
        obtain ⟨rfl, rfl⟩ := h
        refine ⟨by simp only [List.length_cons, List.length_nil]; decide, ?_⟩
        rcases vecD_inv gU_d hA with ⟨rfl, rfl⟩ | ⟨id, rfl, ho⟩
        · (try simp (config := { maxSteps := 10000000 }) only [go_sem, seval]; repeat (simp (disch := omega) only [w64_d, ipos, ineg, dpos, dneg]; try simp (config := { maxSteps := 10000000 }) only [go_sem, seval]))
          exact fin_fp rfl (subH_refl _) hH (Nat.le_refl _)
        · have lid : id < H.length := hg_lt (by rw [ho]; rfl)
          by_cases h2 : A.length < 2
          · have e1 : (A.length : Int) < 2 := by omega
            have e2 : cmpU H (.sl id 0 A.length A.length) A = (.sl id 0 A.length A.length, H) := by
              unfold cmpU
              rw [if_pos]
              match A, h2 with
              | [], _ => rfl
              | [a], _ => simp [ddp, ddN, twB]
            (try simp (config := { maxSteps := 10000000 }) only [go_sem, seval, e1, e2]; repeat (simp (disch := omega) only [w64_d, ipos, ineg, dpos, dneg]; try simp (config := { maxSteps := 10000000 }) only [go_sem, seval, e1, e2]))
            exact fin_fp (by simp [AV.bel, Sc.bel, lid]) (subH_refl _) hH (Nat.le_refl _)
          · have e1 : ¬ (A.length : Int) < 2 := by omega
            let O : List (BitVec 64) → AH := fun L => H.set id (.vec 1 (L.map gU))
            have gO : ∀ L, hg (O L) id = .vec 1 (L.map gU) := fun L => hg_set_same lid
            have sO : ∀ L M, (O L).set id (.vec 1 (M.map gU)) = O M := fun L M => List.set_set ..
            have sC : ∀ L cs, (O L).set id (.vec 1 cs) = H.set id (.vec 1 cs) := fun L cs => List.set_set ..
            have lO : ∀ L, (O L).length = H.length := fun L => List.length_set
            have bO : ∀ L, belH (O L) = true := fun L => bel_set' hH (map_bel gU_num L _)
            have h1 : O A = H := set_self ho lid
            clear_value O
            have kle := fsN_le (twB A) A.length
            have knot := fun k h => fsN_not (p := twB A) (n := A.length) (k := k) h
            have khit := fsN_hit (p := twB A) (n := A.length)
            generalize hK : fsN (twB A) A.length = K at *
            have k1 : 1 ≤ K := by
              rcases Nat.lt_or_ge 0 K with h | h
              · exact h
              · obtain rfl : K = 0 := by omega
                have := khit (by omega)
                simp [twB] at this
            have ddle : ∀ m, (ddN A m).length ≤ m := fun m => ddN_le
            (try simp (config := { maxSteps := 10000000 }) only [go_sem, seval, e1]; repeat (simp (disch := omega) only [w64_d, ipos, ineg, dpos, dneg]; try simp (config := { maxSteps := 10000000 }) only [go_sem, seval, e1]))
            refine arun_for (K - 1) (fun j => ([(0, .c (.sl id 0 A.length A.length)), (3, .c (.i (j + 1 : Nat)))], O A)) ?_ fun j hj => ?_
            · rw [h1]
              exact Wk.wk (Nat.le_refl _) (by simp [Am.get]) (by simp [AV.bel, Sc.bel, lid]) (subH_refl _) hH
            · by_cases hlt : j + 1 < A.length
              · obtain ⟨a, ha⟩ : ∃ a, A[j + 1]? = some a := ⟨_, List.getElem?_eq_getElem hlt⟩
                obtain ⟨b, hb⟩ : ∃ b, A[j]? = some b := ⟨_, List.getElem?_eq_getElem (by omega)⟩
                have ec : ((j + 1 : Nat) : Int) < A.length := by omega
                have w1 : w64 ((j + 1 : Nat) - 1) = (j : Nat) := by rw [w64_d (by omega) (by omega)]; omega
                have tw := twB_get (by omega) ha (y := b) (by simpa using hb)
                have c1 := map_getD (g := gU) ha
                have c2 := map_getD (g := gU) hb
                have q1 : (0 : Int) ≤ ((j + 1 : Nat) : Int) := by omega
                have q2 : (0 : Int) ≤ (j : Int) := by omega
                have q3 : (j : Int) < A.length := by omega
                have q4 : j + 1 + 1 ≤ A.length := by omega
                have q5 : j + 1 ≤ A.length := by omega
                have q6 : ((j + 1 : Nat) : Int) ≤ A.length := by omega
                (try simp (config := { maxSteps := 10000000 }) only [go_sem, seval, ec, w1, gO, c1, c2, List.length_map, Int.toNat_natCast, q1, q2, q3, q4, q5, gU]; repeat (simp (disch := omega) only [w64_d, ipos, ineg, dpos, dneg]; try simp (config := { maxSteps := 10000000 }) only [go_sem, seval, ec, w1, gO, c1, c2, List.length_map, Int.toNat_natCast, q1, q2, q3, q4, q5, gU]))
                by_cases hjk : j + 1 < K
                · have dab : ¬ a = b := by
                    have := knot _ hjk
                    rw [tw] at this; simpa using this
                  (try simp (config := { maxSteps := 10000000 }) only [go_sem, seval, dab]; repeat (simp (disch := omega) only [w64_d, ipos, ineg, dpos, dneg]; try simp (config := { maxSteps := 10000000 }) only [go_sem, seval, dab]))
                  refine ⟨j + 1, by omega, by omega, Wk.wk (by simp [lo, lO]) ?_ (by simp [AV.bel, Sc.bel, lid, lO]) (subH_refl _) (bO _)⟩
                  simp [Am.get]
                · obtain rfl : K = j + 1 := by omega
                  have tk := khit hlt
                  have dab : a = b := by rw [tw] at tk; simpa using tk
                  have dd0 : ddN A (j + 1) = A.take (j + 1) := ddN_take (by omega) knot
                  have dd1 : ddN A (j + 2) = A.take (j + 1) := by simp only [ddN, ha, tk, if_true] at dd0 ⊢; exact dd0
                  have rw1 : rwD A (j + 2) = A := by unfold rwD; rw [dd1]; simp [Nat.min_eq_left (show j + 1 ≤ A.length by omega)]
                  have ddl1 : (ddN A (j + 2)).length = j + 1 := by rw [dd1]; simp; omega
                  have ddlt : ∀ m, j + 1 < m → (ddN A m).length < m := fun m h => ddN_lt tk hlt h
                  (try simp (config := { maxSteps := 10000000 }) only [go_sem, seval, dab, q1, q6, Int.toNat_natCast]; repeat (simp (disch := omega) only [w64_d, ipos, ineg, dpos, dneg]; try simp (config := { maxSteps := 10000000 }) only [go_sem, seval, dab, q1, q6, Int.toNat_natCast]))
                  refine arun_for (A.length - (j + 2)) (fun i => ([(0, .c (.sl id 0 A.length A.length)), (3, .c (.i (ddN A (j + 2 + i)).length)), (4, .c (.sl id (j + 1) A.length (A.length - (j + 1)))), (5, .c (.i (i + 1 : Nat)))], O (rwD A (j + 2 + i)))) ?_ fun i hi => ?_
                  · rw [Nat.add_zero, rw1, ddl1]
                    exact Wk.wk (by simp [lo, lO]) (by simp [Am.get]) (by simp [AV.bel, Sc.bel, lid, lO]) (subH_refl _) (bO _)
                  · have lM : (rwD A (j + 2 + i)).length = A.length := rwD_len (by omega)
                    have dl := ddlt (j + 2 + i) (by omega)
                    by_cases hm : j + 2 + i < A.length
                    · obtain ⟨c, hc⟩ : ∃ c, A[j + 2 + i]? = some c := ⟨_, List.getElem?_eq_getElem hm⟩
                      obtain ⟨d, hd⟩ : ∃ d, A[j + 1 + i]? = some d := ⟨_, List.getElem?_eq_getElem (by omega)⟩
                      have tw2 := twB_get (by omega) hc (y := d) (by rw [show j + 2 + i - 1 = j + 1 + i by omega]; exact hd)
                      have st := fun h => rwD_step hc h (by omega)
                      have sm := fun h => rwD_same hc h
                      have g1 : (rwD A (j + 2 + i))[j + 1 + (i + 1)]? = some c := by rw [rwD_get (by omega), show j + 1 + (i + 1) = j + 2 + i by omega]; exact hc
                      have g2 : (rwD A (j + 2 + i))[j + 1 + i]? = some d := by rw [rwD_get (by omega)]; exact hd
                      have dS : ddN A (j + 2 + (i + 1)) = if twB A (j + 2 + i) = true then ddN A (j + 2 + i) else ddN A (j + 2 + i) ++ [c] := by
                        show ddN A (j + 2 + i + 1) = _
                        simp only [ddN, hc]
                      generalize hL : rwD A (j + 2 + i) = L at *
                      generalize hq : (ddN A (j + 2 + i)).length = q at *
                      have c3 := map_getD (g := gU) g1
                      have c4 := map_getD (g := gU) g2
                      have v1 : ((i + 1 : Nat) : Int) < ((A.length - (j + 1) : Nat) : Int) := by omega
                      have v2 : (0 : Int) ≤ ((i + 1 : Nat) : Int) := by omega
                      have v3 : w64 ((i + 1 : Nat) - 1) = (i : Nat) := by rw [w64_d (by omega) (by omega)]; omega
                      have v4 : (0 : Int) ≤ (i : Int) := by omega
                      have v5 : (i : Int) < ((A.length - (j + 1) : Nat) : Int) := by omega
                      have v6 : j + 1 + (i + 1) + 1 ≤ A.length := by omega
                      have v7 : j + 1 + i + 1 ≤ A.length := by omega
                      have v8 : (0 : Int) ≤ (q : Int) := by omega
                      have v9 : (q : Int) < A.length := by omega
                      have v10 : q + 1 ≤ A.length := by omega
                      have v11 : w64 ((q : Int) + 1) = ((q + 1 : Nat) : Int) := by rw [w64_d (by omega) (by omega)]; omega
                      have r1 : wr (L.map gU) q [.u c] = (L.set q c).map gU := wr_map (g := gU) (by omega)
                      (try simp (config := { maxSteps := 10000000 }) only [go_sem, seval, v1, v2, v3, v4, v5, v6, v7, v8, v9, v10, gO, lM, c3, c4, List.length_map, Int.toNat_natCast, gU]; repeat (simp (disch := omega) only [w64_d, ipos, ineg, dpos, dneg]; try simp (config := { maxSteps := 10000000 }) only [go_sem, seval, v1, v2, v3, v4, v5, v6, v7, v8, v9, v10, gO, lM, c3, c4, List.length_map, Int.toNat_natCast, gU]))
                      by_cases hcd : c = d
                      · have tt : twB A (j + 2 + i) = true := by rw [tw2]; simpa using hcd
                        have sm' : rwD A (j + 2 + (i + 1)) = L := sm tt
                        have dS' : (ddN A (j + 2 + (i + 1))).length = q := by rw [dS, if_pos tt, hq]
                        (try simp (config := { maxSteps := 10000000 }) only [go_sem, seval, hcd]; repeat (simp (disch := omega) only [w64_d, ipos, ineg, dpos, dneg]; try simp (config := { maxSteps := 10000000 }) only [go_sem, seval, hcd]))
                        refine ⟨i + 1, by omega, by omega, ?_⟩
                        rw [sm', dS']
                        refine Wk.wk (by simp [lo, lO]) ?_ (by simp [AV.bel, Sc.bel, lid, lO]) (subH_refl _) (bO _)
                        simp [Am.get]
                      · have tt : twB A (j + 2 + i) = false := by rw [tw2]; simpa using hcd
                        have st' : L.set q c = rwD A (j + 2 + (i + 1)) := st tt
                        have dS' : (ddN A (j + 2 + (i + 1))).length = q + 1 := by rw [dS, if_neg (by rw [tt]; decide), List.length_append, hq]; rfl
                        (try simp (config := { maxSteps := 10000000 }) only [go_sem, seval, hcd, v8, v9, v10, v11, r1, sO, gO, lM, List.length_map, Int.toNat_natCast, c3, gU, st']; repeat (simp (disch := omega) only [w64_d, ipos, ineg, dpos, dneg]; try simp (config := { maxSteps := 10000000 }) only [go_sem, seval, hcd, v8, v9, v10, v11, r1, sO, gO, lM, List.length_map, Int.toNat_natCast, c3, gU, st']))
                        refine ⟨i + 1, by omega, by omega, ?_⟩
                        rw [dS']
                        refine Wk.wk (by simp [lo, lO]) ?_ (by simp [AV.bel, Sc.bel, lid, lO]) (subH_refl _) (bO _)
                        simp [Am.get]
                    · obtain rfl : i = A.length - (j + 2) := by omega
                      have em : j + 2 + (A.length - (j + 2)) = A.length := by omega
                      rw [em] at dl lM
                      have ei : A.length - (j + 2) + 1 = A.length - (j + 1) := by omega
                      have dpl : (ddN A A.length).length = (ddp A).length := rfl
                      have fin : (cmpU H (.sl id 0 A.length A.length) A) = (.sl id 0 A.length (ddp A).length, H.set id (.vec 1 (cmpCU A))) := by
                        unfold cmpU; rw [if_neg (by rw [← dpl]; omega)]
                      have lC : (cmpCU A).length = A.length := by simp [cmpCU]; rw [← dpl]; omega
                      have r3 : wr ((rwD A A.length).map gU) (ddp A).length (List.replicate (A.length - (ddp A).length) (.u 0#64)) = cmpCU A := by
                        have e3 : rwD A A.length = ddp A ++ A.drop (ddp A).length := rfl
                        unfold wr
                        rw [e3, List.map_append]
                        have e4 : ((ddp A).map gU).length = (ddp A).length := by simp
                        rw [List.take_append_of_le_length (by omega), ← e4, List.take_length, List.drop_of_length_le (by simp)]
                        simp [cmpCU, gU]
                      rw [dpl] at dl
                      generalize hq : (ddp A).length = q at *
                      have v1 : (0 : Int) ≤ (q : Int) := by omega
                      have v2 : (q : Int) ≤ A.length := by omega
                      have v3 : A.length - q ≠ 0 := by omega
                      have v4 : q + (A.length - q) ≤ A.length := by omega
                      (try simp (config := { maxSteps := 10000000 }) only [go_sem, seval, em, ei, dpl, hq, gO, lM, v1, v2, v3, v4, List.length_map, Int.toNat_natCast, repl_flat, List.length_replicate, r3, sC, fin, clrA]; repeat (simp (disch := omega) only [w64_d, ipos, ineg, dpos, dneg]; try simp (config := { maxSteps := 10000000 }) only [go_sem, seval, em, ei, dpl, hq, gO, lM, v1, v2, v3, v4, List.length_map, Int.toNat_natCast, repl_flat, List.length_replicate, r3, sC, fin, clrA]))
                      exact fin_fp (by simp [AV.bel, Sc.bel, lid]) (subH_refl _) (bel_set' hH (by simp only [AObj.scs]; unfold cmpCU; rw [List.all_append, Bool.and_eq_true]; exact ⟨map_bel gU_num _ _, by rw [List.all_replicate]; split <;> rfl⟩)) (by rw [List.length_set]; exact Nat.le_refl _)
              · obtain rfl : K = A.length := by omega
                have ec : ¬ ((j + 1 : Nat) : Int) < A.length := by omega
                have e2 : cmpU H (.sl id 0 A.length A.length) A = (.sl id 0 A.length A.length, H) := by
                  unfold cmpU
                  rw [if_pos]
                  rw [ddp, ddN_take (Nat.le_refl _) knot]; simp
                (try simp (config := { maxSteps := 10000000 }) only [go_sem, seval, ec, e2]; repeat (simp (disch := omega) only [w64_d, ipos, ineg, dpos, dneg]; try simp (config := { maxSteps := 10000000 }) only [go_sem, seval, ec, e2]))
                rw [h1]
                exact fin_fp (by simp [AV.bel, Sc.bel, lid]) (subH_refl _) hH (Nat.le_refl _)
      · simp at h
    · simp at h
  · simp at h
theorem linU : Lin ltU where
  irr x := by simp [ltU]
  tr x y z h1 h2 := by simp only [ltU, decide_eq_true_eq] at *; exact BitVec.lt_trans h1 h2
  tot x y h1 h2 := by simp only [ltU, decide_eq_false_iff_not] at *; exact BitVec.le_antisymm (BitVec.not_lt.1 h2) (BitVec.not_lt.1 h1)
theorem cmpU_sl {H : AH} {id v n : Nat} {A : List (BitVec 64)} (ho : hg H id = .vec 1 (A.map gU)) (lid : id < H.length) (hn : n = A.length) : cmpU H (.sl id 0 v n) A = (.sl id 0 v (ddp A).length, H.set id (.vec 1 (cmpCU A))) := by
  unfold cmpU
  split
  · rename_i h
    have e : cmpCU A = A.map gU := by unfold cmpCU; rw [ddp_full h, Nat.sub_self]; simp
    rw [e, set_self ho lid, h, hn]
  · rfl
end
end Go.Proofs.YtcbhelkafelofaaGreat
