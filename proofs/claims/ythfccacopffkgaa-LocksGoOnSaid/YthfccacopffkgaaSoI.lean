/- slices.Sort and slices.Compact of at most 12 ints: contracts. -/
import Derived.Test.YthfccacopffkgaaSo
namespace Go.Proofs.Ythfccacopffkgaa
open Go.Am
set_option linter.unusedSimpArgs false
set_option linter.unusedVariables false
noncomputable section

def ltI (x y : Int) : Bool := decide (x < y)
def s_nanI (args : List AV) : Option AV :=
  match args with
  | [.c (.i x)] => some (.c (.b false))
  | _ => none
theorem s_nanI_eq {x} : s_nanI [.c (.i x)] = some (.c (.b false)) := rfl
set_option maxRecDepth 100000 in
set_option maxHeartbeats 2000000 in
theorem ok_nanI : PuOk Try.prog 64 s_nanI := by
  refine pu_ok (tab := []) hmix TabOk.nil Try.func64 rfl Try.results64 Try.ntmps64 (by kernel_rfl) (by kernel_rfl) ?_
  intro args v h
  unfold s_nanI at h
  split at h
  · rename_i x
    simp only [Option.some.injEq] at h; subst h
    refine ⟨by simp only [List.length_cons, List.length_nil]; decide, rfl, rfl, ?_⟩
    (try simp (config := { maxSteps := 10000000 }) only [go_sem, seval]; repeat (simp (disch := omega) only [w64_d, ipos, ineg, dpos, dneg]; try simp (config := { maxSteps := 10000000 }) only [go_sem, seval]))
  · simp at h
def s_lessI (args : List AV) : Option AV :=
  match args with
  | [.c (.i x), .c (.i y)] => some (.c (.b (decide (x < y))))
  | _ => none
theorem s_lessI_eq {x y} : s_lessI [.c (.i x), .c (.i y)] = some (.c (.b (decide (x < y)))) := rfl
set_option maxRecDepth 100000 in
set_option maxHeartbeats 2000000 in
theorem ok_lessI : PuOk Try.prog 54 s_lessI := by
  refine pu_ok (tab := [(64, .pu s_nanI)]) hmix (TabOk.cons (e := .pu s_nanI) ok_nanI TabOk.nil) Try.func54 rfl Try.results54 Try.ntmps54 (by kernel_rfl) (by kernel_rfl) ?_
  intro args v h
  unfold s_lessI at h
  split at h
  · rename_i x y
    simp only [Option.some.injEq] at h; subst h
    refine ⟨by simp only [List.length_cons, List.length_nil]; decide, rfl, rfl, ?_⟩
    (try simp (config := { maxSteps := 10000000 }) only [go_sem, seval, s_nanI_eq]; repeat (simp (disch := omega) only [w64_d, ipos, ineg, dpos, dneg]; try simp (config := { maxSteps := 10000000 }) only [go_sem, seval, s_nanI_eq]))
  · simp at h
def s_isrtI (args : List AV) (H : AH) : Option (AV × AH) :=
  match args with
  | [.c x, .c (.i 0), .c (.i n)] =>
    match vecD dcI H x with
    | some A => if n = A.length ∧ A.length ≤ 12 then some (.t [], putV H x ((srt ltI A).map gI)) else none
    | none => none
  | _ => none
theorem len_isrtI (args : List AV) (H : AH) (v : AV) (H1 : AH) (h : s_isrtI args H = some (v, H1)) : H.length ≤ H1.length := by
  unfold s_isrtI at h
  repeat' split at h
  all_goals simp at h
  rw [← h.2, putV_len]; exact Nat.le_refl _
theorem s_isrtI_eq {H : AH} {x : Sc} {A : List Int} {n : Int} (hA : vecD dcI H x = some A) (hn : n = A.length) (hl : A.length ≤ 12) : s_isrtI [.c x, .c (.i 0), .c (.i n)] H = some (.t [], putV H x ((srt ltI A).map gI)) := by
  simp only [s_isrtI, hA, hn, hl, and_self, if_true]
set_option maxHeartbeats 4000000 in
set_option maxRecDepth 100000 in
set_option maxHeartbeats 2000000 in
theorem ok_isrtI : FpOk Try.prog 48 s_isrtI := by
  refine fp_ok (s := s_isrtI) (tab := [(54, .pu s_lessI)]) hmix (TabOk.cons (e := .pu s_lessI) ok_lessI TabOk.nil) Try.func48 rfl Try.results48 Try.ntmps48 (by kernel_rfl) (by kernel_rfl) len_isrtI ?_
  intro args H v H1 h hargs hH
  unfold s_isrtI at h
  split at h
  · rename_i x n
    split at h
    · rename_i A hA
      split at h
      · rename_i hc
        obtain ⟨rfl, hl⟩ := hc
        simp only [Option.some.injEq, Prod.mk.injEq] at h
        obtain ⟨rfl, rfl⟩ := h
        refine ⟨by simp only [List.length_cons, List.length_nil]; decide, ?_⟩
        rcases vecD_inv gI_d hA with ⟨rfl, rfl⟩ | ⟨id, rfl, ho⟩
        · (try simp (config := { maxSteps := 10000000 }) only [go_sem, seval, List.length_nil]; repeat (simp (disch := omega) only [w64_d, ipos, ineg, dpos, dneg]; try simp (config := { maxSteps := 10000000 }) only [go_sem, seval, List.length_nil]))
          refine arun_for 0 (fun _ => ([(0, .c .nils), (1, .c (.i 0)), (2, .c (.i 0)), (6, .c (.i 1))], H)) ?_ fun j hj => ?_
          · exact Wk.wk (Nat.le_refl _) (by simp [Am.get]) (by rfl) (subH_refl _) hH
          · (try simp (config := { maxSteps := 10000000 }) only [go_sem, seval]; repeat (simp (disch := omega) only [w64_d, ipos, ineg, dpos, dneg]; try simp (config := { maxSteps := 10000000 }) only [go_sem, seval]))
            exact fin_fp rfl (subH_refl _) hH (Nat.le_refl _)
        · have lid : id < H.length := hg_lt (by rw [ho]; rfl)
          let O : List Int → AH := fun L => H.set id (.vec 1 (L.map gI))
          have gO : ∀ L, hg (O L) id = .vec 1 (L.map gI) := fun L => hg_set_same lid
          have sO : ∀ L M, (O L).set id (.vec 1 (M.map gI)) = O M := fun L M => List.set_set ..
          have lO : ∀ L, (O L).length = H.length := fun L => List.length_set
          have bO : ∀ L, belH (O L) = true := fun L => bel_set' hH (map_bel gI_num L _)
          have h1 : O A = H := set_self ho lid
          have fin : putV H (.sl id 0 A.length A.length) ((srt ltI A).map gI) = O (srt ltI A) := rfl
          rw [fin]
          clear_value O
          (try simp (config := { maxSteps := 10000000 }) only [go_sem, seval]; repeat (simp (disch := omega) only [w64_d, ipos, ineg, dpos, dneg]; try simp (config := { maxSteps := 10000000 }) only [go_sem, seval]))
          refine arun_for (A.length - 1) (fun j => ([(0, .c (.sl id 0 A.length A.length)), (1, .c (.i 0)), (2, .c (.i A.length)), (6, .c (.i (j + 1 : Nat)))], O (rwS ltI A (j + 1)))) ?_ fun j hj => ?_
          · rw [rwS_1, h1]
            exact Wk.wk (Nat.le_refl _) (by simp [Am.get]) (by simp [AV.bel, Sc.bel, lid]) (subH_refl _) hH
          · by_cases hlt : j + 1 < A.length
            · obtain ⟨a, ha⟩ : ∃ a, A[j + 1]? = some a := ⟨_, List.getElem?_eq_getElem hlt⟩
              have ec : ((j + 1 : Nat) : Int) < A.length := by omega
              (try simp (config := { maxSteps := 10000000 }) only [go_sem, seval, ec]; repeat (simp (disch := omega) only [w64_d, ipos, ineg, dpos, dneg]; try simp (config := { maxSteps := 10000000 }) only [go_sem, seval, ec]))
              have lP : (preS ltI A (j + 1)).length = j + 1 := preS_len (by omega)
              have kP := insK_le (lt := ltI) (x := a) (P := preS ltI A (j + 1))
              rw [rwS_mv ha]
              refine arun_for (insK ltI a (preS ltI A (j + 1))) (fun k => ([(0, .c (.sl id 0 A.length A.length)), (1, .c (.i 0)), (2, .c (.i A.length)), (6, .c (.i (j + 1 : Nat))), (7, .c (.i (j + 1 - k : Nat)))], O (mvS (preS ltI A (j + 1)) a (A.drop (j + 2)) k))) ?_ fun k hk => ?_
              · exact Wk.wk (by simp [lo, lO]) (by simp [Am.get]) (by simp [AV.bel, Sc.bel, lid, lO]) (subH_refl _) (bO _)
              · have lM : (mvS (preS ltI A (j + 1)) a (A.drop (j + 2)) k).length = A.length := by rw [mvS_len, lP]; simp; omega
                by_cases hz : k < j + 1
                · obtain ⟨y, hy⟩ : ∃ y, (preS ltI A (j + 1))[(preS ltI A (j + 1)).length - 1 - k]? = some y := ⟨_, List.getElem?_eq_getElem (by omega)⟩
                  have m1 := mvS_x (R := A.drop (j + 2)) (x := a) (k := k) (P := preS ltI A (j + 1)) (by omega)
                  have m2 := mvS_y (R := A.drop (j + 2)) (x := a) (k := k) (P := preS ltI A (j + 1)) (by omega)
                  have st := mvS_step (R := A.drop (j + 2)) (x := a) (k := k) (P := preS ltI A (j + 1)) (by omega) hy
                  have kg := insK_get (lt := ltI) (x := a) (P := preS ltI A (j + 1)) (k := k) (y := y)
                  have ke := insK_end (lt := ltI) (x := a) (P := preS ltI A (j + 1)) (y := y)
                  have en := rwS_end (lt := ltI) ha
                  rw [hy] at m2
                  rw [lP] at m1 m2 st
                  have w1 : w64 ((j + 1 - k : Nat) - 1) = ((j + 1 - k - 1 : Nat) : Int) := by rw [w64_d (by omega) (by omega)]; omega
                  generalize hL : mvS (preS ltI A (j + 1)) a (A.drop (j + 2)) k = L at *
                  generalize hq : j + 1 - k = q at *
                  have q0 : (0 : Int) < q := by omega
                  have q1 : (q : Int) < A.length := by omega
                  have q2 : ((q - 1 : Nat) : Int) < A.length := by omega
                  have q3 : (0 : Int) ≤ ((q - 1 : Nat) : Int) := by omega
                  have q4 : (0 : Int) ≤ (q : Int) := by omega
                  have q5 : q + 1 ≤ A.length := by omega
                  have q6 : q - 1 + 1 ≤ A.length := by omega
                  have c1 := map_getD (g := gI) m1
                  have c2 := map_getD (g := gI) m2
                  have r1 : wr (L.map gI) q [.i y] = (L.set q y).map gI := wr_map (g := gI) (by omega)
                  have r2 : wr ((L.set q y).map gI) (q - 1) [.i a] = ((L.set q y).set (q - 1) a).map gI := wr_map (g := gI) (by simp; omega)
                  (try simp (config := { maxSteps := 10000000 }) only [go_sem, seval, s_lessI_eq, w1, q0, q1, q2, q3, q4, q5, q6, gO, lM, List.length_map, Int.toNat_natCast, c1, c2, gI]; repeat (simp (disch := omega) only [w64_d, ipos, ineg, dpos, dneg]; try simp (config := { maxSteps := 10000000 }) only [go_sem, seval, s_lessI_eq, w1, q0, q1, q2, q3, q4, q5, q6, gO, lM, List.length_map, Int.toNat_natCast, c1, c2, gI]))
                  by_cases hk2 : k < insK ltI a (preS ltI A (j + 1))
                  · have dy : a < y := by
                      have := kg hk2 (by rw [← hy])
                      simpa [ltI] using this
                    (try simp (config := { maxSteps := 10000000 }) only [go_sem, seval, s_lessI_eq, dy, w1, q0, q1, q2, q3, q4, q5, q6, gO, sO, lM, List.length_map, List.length_set, Int.toNat_natCast, c1, c2, r1, r2, gI]; repeat (simp (disch := omega) only [w64_d, ipos, ineg, dpos, dneg]; try simp (config := { maxSteps := 10000000 }) only [go_sem, seval, s_lessI_eq, dy, w1, q0, q1, q2, q3, q4, q5, q6, gO, sO, lM, List.length_map, List.length_set, Int.toNat_natCast, c1, c2, r1, r2, gI]))
                    refine ⟨by repeat' first | apply And.intro | (intro _; kernel_rfl), ?_⟩
                    (try simp (config := { maxSteps := 10000000 }) only [go_sem, seval, s_lessI_eq, dy, w1, q0, q1, q2, q3, q4, q5, q6, gO, sO, lM, List.length_map, List.length_set, Int.toNat_natCast, c1, c2, r1, r2, gI, st]; repeat (simp (disch := omega) only [w64_d, ipos, ineg, dpos, dneg]; try simp (config := { maxSteps := 10000000 }) only [go_sem, seval, s_lessI_eq, dy, w1, q0, q1, q2, q3, q4, q5, q6, gO, sO, lM, List.length_map, List.length_set, Int.toNat_natCast, c1, c2, r1, r2, gI, st]))
                    refine ⟨by repeat' first | apply And.intro | (intro _; kernel_rfl), k + 1, by omega, by omega, Wk.wk (by simp [lo, lO]) ?_ (by simp [AV.bel, Sc.bel, lid, lO]) (subH_refl _) (bO _)⟩
                    have w2 : j + 1 - (k + 1) = q - 1 := by omega
                    simp [Am.get, w2]
                  · obtain rfl : k = insK ltI a (preS ltI A (j + 1)) := by omega
                    have dy : ¬ a < y := by
                      have := ke (by omega) (by rw [← hy])
                      simpa [ltI] using this
                    (try simp (config := { maxSteps := 10000000 }) only [go_sem, seval, s_lessI_eq, dy, w1]; repeat (simp (disch := omega) only [w64_d, ipos, ineg, dpos, dneg]; try simp (config := { maxSteps := 10000000 }) only [go_sem, seval, s_lessI_eq, dy, w1]))
                    rw [← hL, en]
                    refine ⟨j + 1, by omega, by omega, Wk.wk (by simp [lo, lO]) ?_ (by simp [AV.bel, Sc.bel, lid, lO]) (subH_refl _) (bO _)⟩
                    simp [Am.get]
                · have hq : j + 1 - k = 0 := by omega
                  obtain rfl : k = insK ltI a (preS ltI A (j + 1)) := by omega
                  have en := rwS_end (lt := ltI) ha
                  (try simp (config := { maxSteps := 10000000 }) only [go_sem, seval, s_lessI_eq, hq, Int.natCast_zero]; repeat (simp (disch := omega) only [w64_d, ipos, ineg, dpos, dneg]; try simp (config := { maxSteps := 10000000 }) only [go_sem, seval, s_lessI_eq, hq, Int.natCast_zero]))
                  rw [en]
                  refine ⟨j + 1, by omega, by omega, Wk.wk (by simp [lo, lO]) ?_ (by simp [AV.bel, Sc.bel, lid, lO]) (subH_refl _) (bO _)⟩
                  simp [Am.get]
            · have ec : ¬ ((j + 1 : Nat) : Int) < A.length := by omega
              have e2 : rwS ltI A (j + 1) = srt ltI A := by
                rcases Nat.lt_or_ge 0 A.length with h0 | h0
                · rw [show j + 1 = A.length by omega, rwS_all]
                · obtain rfl : A = [] := List.eq_nil_of_length_eq_zero (by omega)
                  obtain rfl : j = 0 := by simpa using hj
                  rfl
              (try simp (config := { maxSteps := 10000000 }) only [go_sem, seval, ec, e2]; repeat (simp (disch := omega) only [w64_d, ipos, ineg, dpos, dneg]; try simp (config := { maxSteps := 10000000 }) only [go_sem, seval, ec, e2]))
              exact fin_fp rfl (subH_refl _) (bO _) (by rw [lO]; exact Nat.le_refl _)
      · simp at h
    · simp at h
  · simp at h
def s_pdqI (args : List AV) (H : AH) : Option (AV × AH) :=
  match args with
  | [.c x, .c (.i 0), .c (.i n), .c (.i _)] => s_isrtI [.c x, .c (.i 0), .c (.i n)] H
  | _ => none
theorem len_pdqI (args : List AV) (H : AH) (v : AV) (H1 : AH) (h : s_pdqI args H = some (v, H1)) : H.length ≤ H1.length := by
  unfold s_pdqI at h
  split at h
  · exact len_isrtI _ _ _ _ h
  · simp at h
theorem s_pdqI_eq {H : AH} {x : Sc} {A : List Int} {n m : Int} (hA : vecD dcI H x = some A) (hn : n = A.length) (hl : A.length ≤ 12) : s_pdqI [.c x, .c (.i 0), .c (.i n), .c (.i m)] H = some (.t [], putV H x ((srt ltI A).map gI)) := s_isrtI_eq hA hn hl
theorem isrtI_inv {H H1 : AH} {x : Sc} {n : Int} {v : AV} (h : s_isrtI [.c x, .c (.i 0), .c (.i n)] H = some (v, H1)) : ∃ A, vecD dcI H x = some A ∧ n = A.length ∧ A.length ≤ 12 ∧ v = .t [] ∧ H1 = putV H x ((srt ltI A).map gI) := by
  simp only [s_isrtI] at h
  split at h
  · rename_i A hA
    split at h
    · rename_i hc
      simp only [Option.some.injEq, Prod.mk.injEq] at h
      exact ⟨A, hA, hc.1, hc.2, h.1.symm, h.2.symm⟩
    · simp at h
  · simp at h
theorem srtVI_bel {H : AH} {x : Sc} {A B : List Int} (hH : belH H = true) (hA : vecD dcI H x = some A) : belH (putV H x (B.map gI)) = true := by
  rcases vecD_inv gI_d hA with ⟨rfl, rfl⟩ | ⟨id, rfl, ho⟩
  · exact hH
  · exact bel_set' hH (map_bel gI_num B _)
theorem vecI_bel {H : AH} {x : Sc} {A : List Int} (hA : vecD dcI H x = some A) : x.bel H.length = true := by
  rcases vecD_inv gI_d hA with ⟨rfl, rfl⟩ | ⟨id, rfl, ho⟩
  · rfl
  · simpa [Sc.bel] using hg_lt (H := H) (i := id) (by rw [ho]; rfl)
set_option maxRecDepth 100000 in
set_option maxHeartbeats 2000000 in
theorem ok_pdqI : FpOk Try.prog 45 s_pdqI := by
  refine fp_ok (s := s_pdqI) (tab := [(48, .fp s_isrtI)]) hmix (TabOk.cons (e := .fp s_isrtI) ok_isrtI TabOk.nil) Try.func45 rfl Try.results45 Try.ntmps45 (by kernel_rfl) (by kernel_rfl) len_pdqI ?_
  intro args H v H1 h hargs hH
  unfold s_pdqI at h
  split at h
  · rename_i x n m
    have h0 := h
    obtain ⟨A, hA, rfl, hl, rfl, rfl⟩ := isrtI_inv h
    refine ⟨by simp only [List.length_cons, List.length_nil]; decide, ?_⟩
    (try simp (config := { maxSteps := 10000000 }) only [go_sem, seval]; repeat (simp (disch := omega) only [w64_d, ipos, ineg, dpos, dneg]; try simp (config := { maxSteps := 10000000 }) only [go_sem, seval]))
    refine arun_for 0 (fun _ => ([(0, .c x), (1, .c (.i 0)), (2, .c (.i A.length))], H)) ?_ fun j hj => ?_
    · exact Wk.wk (Nat.le_refl _) (by simp [Am.get]) (by simp only [List.all_cons, List.all_nil, AV.bel, vecI_bel hA]; rfl) (subH_refl _) hH
    · have w1 : w64 ((A.length : Int) - 0) = A.length := by rw [w64_d (by omega) (by omega)]; omega
      have c1 : (A.length : Int) ≤ 12 := by omega
      (try simp (config := { maxSteps := 10000000 }) only [go_sem, seval, w1, c1, h0]; repeat (simp (disch := omega) only [w64_d, ipos, ineg, dpos, dneg]; try simp (config := { maxSteps := 10000000 }) only [go_sem, seval, w1, c1, h0]))
      exact fin_fp rfl (subH_refl _) (srtVI_bel hH hA) (by rw [putV_len]; exact Nat.le_refl _)
  · simp at h
def s_sortI (args : List AV) (H : AH) : Option (AV × AH) :=
  match args with
  | [.c x] =>
    match vecD dcI H x with
    | some A => if A.length ≤ 12 then some (.t [], putV H x ((srt ltI A).map gI)) else none
    | none => none
  | _ => none
theorem len_sortI (args : List AV) (H : AH) (v : AV) (H1 : AH) (h : s_sortI args H = some (v, H1)) : H.length ≤ H1.length := by
  unfold s_sortI at h
  repeat' split at h
  all_goals simp at h
  rw [← h.2, putV_len]; exact Nat.le_refl _
theorem s_sortI_eq {H : AH} {x : Sc} {A : List Int} (hA : vecD dcI H x = some A) (hl : A.length ≤ 12) : s_sortI [.c x] H = some (.t [], putV H x ((srt ltI A).map gI)) := by
  simp only [s_sortI, hA, hl, if_true]
set_option maxRecDepth 100000 in
set_option maxHeartbeats 2000000 in
theorem ok_sortI : FpOk Try.prog 33 s_sortI := by
  refine fp_ok (s := s_sortI) (tab := [(46, .pu s_blen), (45, .fp s_pdqI)]) hmix (TabOk.cons (e := .pu s_blen) ok_blen (TabOk.cons (e := .fp s_pdqI) ok_pdqI TabOk.nil)) Try.func33 rfl Try.results33 Try.ntmps33 (by kernel_rfl) (by kernel_rfl) len_sortI ?_
  intro args H v H1 h hargs hH
  unfold s_sortI at h
  split at h
  · rename_i x
    split at h
    · rename_i A hA
      split at h
      · rename_i hl
        simp only [Option.some.injEq, Prod.mk.injEq] at h
        obtain ⟨rfl, rfl⟩ := h
        refine ⟨by simp only [List.length_cons, List.length_nil]; decide, ?_⟩
        have xl : ∀ e, lenB (.sl e) (.c x) = some (.c (.i A.length)) := by
          intro e
          rcases vecD_inv gI_d hA with ⟨rfl, rfl⟩ | ⟨id2, rfl, ho⟩ <;> rfl
        have xa : ∀ (l : Array Operand) (ts : List Nat) (t : Nat) (tab : Tab), astep Try.prog tab (.call ⟨.builtin .len, l, (t :: ts).toArray⟩) [.c x] H = (lenA Try.prog t (.c x)).map fun v => (v, H) := by
          intro l ts t tab
          rcases vecD_inv gI_d hA with ⟨rfl, rfl⟩ | ⟨id2, rfl, ho⟩
          · exact as_len_nils
          · exact as_len_sl
        have xb : tcM [.c x] = .no := by
          rcases vecD_inv gI_d hA with ⟨rfl, rfl⟩ | ⟨id2, rfl, ho⟩ <;> rfl
        have e1 : (BitVec.ofInt 64 (A.length : Int)).toNat ≤ 12 := by rw [BitVec.toNat_ofInt]; omega
        have p1 := fun m => s_pdqI_eq (m := m) hA rfl hl
        (try simp (config := { maxSteps := 10000000 }) only [go_sem, seval, s_blen_eq, s_pdqI_eq, xa, xb, xl, e1, p1]; repeat (simp (disch := omega) only [w64_d, ipos, ineg, dpos, dneg]; try simp (config := { maxSteps := 10000000 }) only [go_sem, seval, s_blen_eq, s_pdqI_eq, xa, xb, xl, e1, p1]))
        exact fin_fp rfl (subH_refl _) (srtVI_bel hH hA) (by rw [putV_len]; exact Nat.le_refl _)
      · simp at h
    · simp at h
  · simp at h
/-! ### Compact -/
def cmpCI (A : List Int) : List Sc := (ddp A).map gI ++ List.replicate (A.length - (ddp A).length) (gI 0)
def cmpI (H : AH) (x : Sc) (A : List Int) : Sc × AH :=
  if (ddp A).length = A.length then (x, H)
  else match x with
    | .sl id o v _ => (.sl id o v (ddp A).length, H.set id (.vec 1 (cmpCI A)))
    | x => (x, H)
def s_cmpI (args : List AV) (H : AH) : Option (AV × AH) :=
  match args with
  | [.c x] =>
    match vecD dcI H x with
    | some A => if A.length ≤ 12 then some (.c (cmpI H x A).1, (cmpI H x A).2) else none
    | none => none
  | _ => none
theorem cmpI_len {H : AH} {x : Sc} {A : List Int} : (cmpI H x A).2.length = H.length := by
  unfold cmpI
  repeat' split
  all_goals simp
theorem len_cmpI (args : List AV) (H : AH) (v : AV) (H1 : AH) (h : s_cmpI args H = some (v, H1)) : H.length ≤ H1.length := by
  unfold s_cmpI at h
  repeat' split at h
  all_goals simp at h
  rw [← h.2, cmpI_len]; exact Nat.le_refl _
theorem s_cmpI_eq {H : AH} {x : Sc} {A : List Int} (hA : vecD dcI H x = some A) (hl : A.length ≤ 12) : s_cmpI [.c x] H = some (.c (cmpI H x A).1, (cmpI H x A).2) := by
  simp only [s_cmpI, hA, hl, if_true]
set_option maxHeartbeats 8000000 in
set_option maxRecDepth 100000 in
set_option maxHeartbeats 2000000 in
theorem ok_cmpI : FpOk Try.prog 34 s_cmpI := by
  refine fp_ok (s := s_cmpI) (tab := []) hmix TabOk.nil Try.func34 rfl Try.results34 Try.ntmps34 (by kernel_rfl) (by kernel_rfl) len_cmpI ?_
  intro args H v H1 h hargs hH
  unfold s_cmpI at h
  split at h
  · rename_i x
    split at h
    · rename_i A hA
      split at h
      · rename_i hl
        simp only [Option.some.injEq, Prod.mk.injEq] at h
        obtain ⟨rfl, rfl⟩ := h
        refine ⟨by simp only [List.length_cons, List.length_nil]; decide, ?_⟩
        rcases vecD_inv gI_d hA with ⟨rfl, rfl⟩ | ⟨id, rfl, ho⟩
        · (try simp (config := { maxSteps := 10000000 }) only [go_sem, seval]; repeat (simp (disch := omega) only [w64_d, ipos, ineg, dpos, dneg]; try simp (config := { maxSteps := 10000000 }) only [go_sem, seval]))
          exact fin_fp rfl (subH_refl _) hH (Nat.le_refl _)
        · have lid : id < H.length := hg_lt (by rw [ho]; rfl)
          by_cases h2 : A.length < 2
          · have e1 : (A.length : Int) < 2 := by omega
            have e2 : cmpI H (.sl id 0 A.length A.length) A = (.sl id 0 A.length A.length, H) := by
              unfold cmpI
              rw [if_pos]
              match A, h2 with
              | [], _ => rfl
              | [a], _ => simp [ddp, ddN, twB]
            (try simp (config := { maxSteps := 10000000 }) only [go_sem, seval, e1, e2]; repeat (simp (disch := omega) only [w64_d, ipos, ineg, dpos, dneg]; try simp (config := { maxSteps := 10000000 }) only [go_sem, seval, e1, e2]))
            exact fin_fp (by simp [AV.bel, Sc.bel, lid]) (subH_refl _) hH (Nat.le_refl _)
          · have e1 : ¬ (A.length : Int) < 2 := by omega
            let O : List Int → AH := fun L => H.set id (.vec 1 (L.map gI))
            have gO : ∀ L, hg (O L) id = .vec 1 (L.map gI) := fun L => hg_set_same lid
            have sO : ∀ L M, (O L).set id (.vec 1 (M.map gI)) = O M := fun L M => List.set_set ..
            have sC : ∀ L cs, (O L).set id (.vec 1 cs) = H.set id (.vec 1 cs) := fun L cs => List.set_set ..
            have lO : ∀ L, (O L).length = H.length := fun L => List.length_set
            have bO : ∀ L, belH (O L) = true := fun L => bel_set' hH (map_bel gI_num L _)
            have h1 : O A = H := set_self ho lid
            clear_value O
            have kle := fsN_le (twB A) A.length
            have knot := fun k h => fsN_not (p := twB A) (n := A.length) (k := k) h
            have khit := fsN_hit (p := twB A) (n := A.length)
            generalize hK : fsN (twB A) A.length = K at *
            have k1 : 1 ≤ K := by
              rcases Nat.lt_or_ge 0 K with h | h
              · exact h
              · obtain rfl : K = 0 := by omega
                have := khit (by omega)
                simp [twB] at this
            have ddle : ∀ m, (ddN A m).length ≤ m := fun m => ddN_le
            (try simp (config := { maxSteps := 10000000 }) only [go_sem, seval, e1]; repeat (simp (disch := omega) only [w64_d, ipos, ineg, dpos, dneg]; try simp (config := { maxSteps := 10000000 }) only [go_sem, seval, e1]))
            refine arun_for (K - 1) (fun j => ([(0, .c (.sl id 0 A.length A.length)), (3, .c (.i (j + 1 : Nat)))], O A)) ?_ fun j hj => ?_
            · rw [h1]
              exact Wk.wk (Nat.le_refl _) (by simp [Am.get]) (by simp [AV.bel, Sc.bel, lid]) (subH_refl _) hH
            · by_cases hlt : j + 1 < A.length
              · obtain ⟨a, ha⟩ : ∃ a, A[j + 1]? = some a := ⟨_, List.getElem?_eq_getElem hlt⟩
                obtain ⟨b, hb⟩ : ∃ b, A[j]? = some b := ⟨_, List.getElem?_eq_getElem (by omega)⟩
                have ec : ((j + 1 : Nat) : Int) < A.length := by omega
                have w1 : w64 ((j + 1 : Nat) - 1) = (j : Nat) := by rw [w64_d (by omega) (by omega)]; omega
                have tw := twB_get (by omega) ha (y := b) (by simpa using hb)
                have c1 := map_getD (g := gI) ha
                have c2 := map_getD (g := gI) hb
                have q1 : (0 : Int) ≤ ((j + 1 : Nat) : Int) := by omega
                have q2 : (0 : Int) ≤ (j : Int) := by omega
                have q3 : (j : Int) < A.length := by omega
                have q4 : j + 1 + 1 ≤ A.length := by omega
                have q5 : j + 1 ≤ A.length := by omega
                have q6 : ((j + 1 : Nat) : Int) ≤ A.length := by omega
                (try simp (config := { maxSteps := 10000000 }) only [go_sem, seval, ec, w1, gO, c1, c2, List.length_map, Int.toNat_natCast, q1, q2, q3, q4, q5, gI]; repeat (simp (disch := omega) only [w64_d, ipos, ineg, dpos, dneg]; try simp (config := { maxSteps := 10000000 }) only [go_sem, seval, ec, w1, gO, c1, c2, List.length_map, Int.toNat_natCast, q1, q2, q3, q4, q5, gI]))
                by_cases hjk : j + 1 < K
                · have dab : ¬ a = b := by
                    have := knot _ hjk
                    rw [tw] at this; simpa using this
                  (try simp (config := { maxSteps := 10000000 }) only [go_sem, seval, dab]; repeat (simp (disch := omega) only [w64_d, ipos, ineg, dpos, dneg]; try simp (config := { maxSteps := 10000000 }) only [go_sem, seval, dab]))
                  refine ⟨j + 1, by omega, by omega, Wk.wk (by simp [lo, lO]) ?_ (by simp [AV.bel, Sc.bel, lid, lO]) (subH_refl _) (bO _)⟩
                  simp [Am.get]
                · obtain rfl : K = j + 1 := by omega
                  have tk := khit hlt
                  have dab : a = b := by rw [tw] at tk; simpa using tk
                  have dd0 : ddN A (j + 1) = A.take (j + 1) := ddN_take (by omega) knot
                  have dd1 : ddN A (j + 2) = A.take (j + 1) := by simp only [ddN, ha, tk, if_true] at dd0 ⊢; exact dd0
                  have rw1 : rwD A (j + 2) = A := by unfold rwD; rw [dd1]; simp [Nat.min_eq_left (show j + 1 ≤ A.length by omega)]
                  have ddl1 : (ddN A (j + 2)).length = j + 1 := by rw [dd1]; simp; omega
                  have ddlt : ∀ m, j + 1 < m → (ddN A m).length < m := fun m h => ddN_lt tk hlt h
                  (try simp (config := { maxSteps := 10000000 }) only [go_sem, seval, dab, q1, q6, Int.toNat_natCast]; repeat (simp (disch := omega) only [w64_d, ipos, ineg, dpos, dneg]; try simp (config := { maxSteps := 10000000 }) only [go_sem, seval, dab, q1, q6, Int.toNat_natCast]))
                  refine arun_for (A.length - (j + 2)) (fun i => ([(0, .c (.sl id 0 A.length A.length)), (3, .c (.i (ddN A (j + 2 + i)).length)), (4, .c (.sl id (j + 1) A.length (A.length - (j + 1)))), (5, .c (.i (i + 1 : Nat)))], O (rwD A (j + 2 + i)))) ?_ fun i hi => ?_
                  · rw [Nat.add_zero, rw1, ddl1]
                    exact Wk.wk (by simp [lo, lO]) (by simp [Am.get]) (by simp [AV.bel, Sc.bel, lid, lO]) (subH_refl _) (bO _)
                  · have lM : (rwD A (j + 2 + i)).length = A.length := rwD_len (by omega)
                    have dl := ddlt (j + 2 + i) (by omega)
                    by_cases hm : j + 2 + i < A.length
                    · obtain ⟨c, hc⟩ : ∃ c, A[j + 2 + i]? = some c := ⟨_, List.getElem?_eq_getElem hm⟩
                      obtain ⟨d, hd⟩ : ∃ d, A[j + 1 + i]? = some d := ⟨_, List.getElem?_eq_getElem (by omega)⟩
                      have tw2 := twB_get (by omega) hc (y := d) (by rw [show j + 2 + i - 1 = j + 1 + i by omega]; exact hd)
                      have st := fun h => rwD_step hc h (by omega)
                      have sm := fun h => rwD_same hc h
                      have g1 : (rwD A (j + 2 + i))[j + 1 + (i + 1)]? = some c := by rw [rwD_get (by omega), show j + 1 + (i + 1) = j + 2 + i by omega]; exact hc
                      have g2 : (rwD A (j + 2 + i))[j + 1 + i]? = some d := by rw [rwD_get (by omega)]; exact hd
                      have dS : ddN A (j + 2 + (i + 1)) = if twB A (j + 2 + i) = true then ddN A (j + 2 + i) else ddN A (j + 2 + i) ++ [c] := by
                        show ddN A (j + 2 + i + 1) = _
                        simp only [ddN, hc]
                      generalize hL : rwD A (j + 2 + i) = L at *
                      generalize hq : (ddN A (j + 2 + i)).length = q at *
                      have c3 := map_getD (g := gI) g1
                      have c4 := map_getD (g := gI) g2
                      have v1 : ((i + 1 : Nat) : Int) < ((A.length - (j + 1) : Nat) : Int) := by omega
                      have v2 : (0 : Int) ≤ ((i + 1 : Nat) : Int) := by omega
                      have v3 : w64 ((i + 1 : Nat) - 1) = (i : Nat) := by rw [w64_d (by omega) (by omega)]; omega
                      have v4 : (0 : Int) ≤ (i : Int) := by omega
                      have v5 : (i : Int) < ((A.length - (j + 1) : Nat) : Int) := by omega
                      have v6 : j + 1 + (i + 1) + 1 ≤ A.length := by omega
                      have v7 : j + 1 + i + 1 ≤ A.length := by omega
                      have v8 : (0 : Int) ≤ (q : Int) := by omega
                      have v9 : (q : Int) < A.length := by omega
                      have v10 : q + 1 ≤ A.length := by omega
                      have v11 : w64 ((q : Int) + 1) = ((q + 1 : Nat) : Int) := by rw [w64_d (by omega) (by omega)]; omega
                      have r1 : wr (L.map gI) q [.i c] = (L.set q c).map gI := wr_map (g := gI) (by omega)
                      (try simp (config := { maxSteps := 10000000 }) only [go_sem, seval, v1, v2, v3, v4, v5, v6, v7, v8, v9, v10, gO, lM, c3, c4, List.length_map, Int.toNat_natCast, gI]; repeat (simp (disch := omega) only [w64_d, ipos, ineg, dpos, dneg]; try simp (config := { maxSteps := 10000000 }) only [go_sem, seval, v1, v2, v3, v4, v5, v6, v7, v8, v9, v10, gO, lM, c3, c4, List.length_map, Int.toNat_natCast, gI]))
                      by_cases hcd : c = d
                      · have tt : twB A (j + 2 + i) = true := by rw [tw2]; simpa using hcd
                        have sm' : rwD A (j + 2 + (i + 1)) = L := sm tt
                        have dS' : (ddN A (j + 2 + (i + 1))).length = q := by rw [dS, if_pos tt, hq]
                        (try simp (config := { maxSteps := 10000000 }) only [go_sem, seval, hcd]; repeat (simp (disch := omega) only [w64_d, ipos, ineg, dpos, dneg]; try simp (config := { maxSteps := 10000000 }) only [go_sem, seval, hcd]))
                        refine ⟨i + 1, by omega, by omega, ?_⟩
                        rw [sm', dS']
                        refine Wk.wk (by simp [lo, lO]) ?_ (by simp [AV.bel, Sc.bel, lid, lO]) (subH_refl _) (bO _)
                        simp [Am.get]
                      · have tt : twB A (j + 2 + i) = false := by rw [tw2]; simpa using hcd
                        have st' : L.set q c = rwD A (j + 2 + (i + 1)) := st tt
                        have dS' : (ddN A (j + 2 + (i + 1))).length = q + 1 := by rw [dS, if_neg (by rw [tt]; decide), List.length_append, hq]; rfl
                        (try simp (config := { maxSteps := 10000000 }) only [go_sem, seval, hcd, v8, v9, v10, v11, r1, sO, gO, lM, List.length_map, Int.toNat_natCast, c3, gI, st']; repeat (simp (disch := omega) only [w64_d, ipos, ineg, dpos, dneg]; try simp (config := { maxSteps := 10000000 }) only [go_sem, seval, hcd, v8, v9, v10, v11, r1, sO, gO, lM, List.length_map, Int.toNat_natCast, c3, gI, st']))
                        refine ⟨i + 1, by omega, by omega, ?_⟩
                        rw [dS']
                        refine Wk.wk (by simp [lo, lO]) ?_ (by simp [AV.bel, Sc.bel, lid, lO]) (subH_refl _) (bO _)
                        simp [Am.get]
                    · obtain rfl : i = A.length - (j + 2) := by omega
                      have em : j + 2 + (A.length - (j + 2)) = A.length := by omega
                      rw [em] at dl lM
                      have ei : A.length - (j + 2) + 1 = A.length - (j + 1) := by omega
                      have dpl : (ddN A A.length).length = (ddp A).length := rfl
                      have fin : (cmpI H (.sl id 0 A.length A.length) A) = (.sl id 0 A.length (ddp A).length, H.set id (.vec 1 (cmpCI A))) := by
                        unfold cmpI; rw [if_neg (by rw [← dpl]; omega)]
                      have lC : (cmpCI A).length = A.length := by simp [cmpCI]; rw [← dpl]; omega
                      have r3 : wr ((rwD A A.length).map gI) (ddp A).length (List.replicate (A.length - (ddp A).length) (.i 0)) = cmpCI A := by
                        have e3 : rwD A A.length = ddp A ++ A.drop (ddp A).length := rfl
                        unfold wr
                        rw [e3, List.map_append]
                        have e4 : ((ddp A).map gI).length = (ddp A).length := by simp
                        rw [List.take_append_of_le_length (by omega), ← e4, List.take_length, List.drop_of_length_le (by simp)]
                        simp [cmpCI, gI]
                      rw [dpl] at dl
                      generalize hq : (ddp A).length = q at *
                      have v1 : (0 : Int) ≤ (q : Int) := by omega
                      have v2 : (q : Int) ≤ A.length := by omega
                      have v3 : A.length - q ≠ 0 := by omega
                      have v4 : q + (A.length - q) ≤ A.length := by omega
                      (try simp (config := { maxSteps := 10000000 }) only [go_sem, seval, em, ei, dpl, hq, gO, lM, v1, v2, v3, v4, List.length_map, Int.toNat_natCast, repl_flat, List.length_replicate, r3, sC, fin, clrA]; repeat (simp (disch := omega) only [w64_d, ipos, ineg, dpos, dneg]; try simp (config := { maxSteps := 10000000 }) only [go_sem, seval, em, ei, dpl, hq, gO, lM, v1, v2, v3, v4, List.length_map, Int.toNat_natCast, repl_flat, List.length_replicate, r3, sC, fin, clrA]))
                      exact fin_fp (by simp [AV.bel, Sc.bel, lid]) (subH_refl _) (bel_set' hH (by simp only [AObj.scs]; unfold cmpCI; rw [List.all_append, Bool.and_eq_true]; exact ⟨map_bel gI_num _ _, by rw [List.all_replicate]; split <;> rfl⟩)) (by rw [List.length_set]; exact Nat.le_refl _)
              · obtain rfl : K = A.length := by omega
                have ec : ¬ ((j + 1 : Nat) : Int) < A.length := by omega
                have e2 : cmpI H (.sl id 0 A.length A.length) A = (.sl id 0 A.length A.length, H) := by
                  unfold cmpI
                  rw [if_pos]
                  rw [ddp, ddN_take (Nat.le_refl _) knot]; simp
                (try simp (config := { maxSteps := 10000000 }) only [go_sem, seval, ec, e2]; repeat (simp (disch := omega) only [w64_d, ipos, ineg, dpos, dneg]; try simp (config := { maxSteps := 10000000 }) only [go_sem, seval, ec, e2]))
                rw [h1]
                exact fin_fp (by simp [AV.bel, Sc.bel, lid]) (subH_refl _) hH (Nat.le_refl _)
      · simp at h
    · simp at h
  · simp at h
theorem linI : Lin ltI where
  irr x := by simp [ltI]
  tr x y z h1 h2 := by simp only [ltI, decide_eq_true_eq] at *; omega
  tot x y h1 h2 := by simp only [ltI, decide_eq_false_iff_not] at *; omega
theorem cmpI_sl {H : AH} {id v n : Nat} {A : List Int} (ho : hg H id = .vec 1 (A.map gI)) (lid : id < H.length) (hn : n = A.length) : cmpI H (.sl id 0 v n) A = (.sl id 0 v (ddp A).length, H.set id (.vec 1 (cmpCI A))) := by
  unfold cmpI
  split
  · rename_i h
    have e : cmpCI A = A.map gI := by unfold cmpCI; rw [ddp_full h, Nat.sub_self]; simp
    rw [e, set_self ho lid, h, hn]
  · rfl
end
end Go.Proofs.Ythfccacopffkgaa
