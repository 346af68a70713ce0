/- Layer 12: lists of numbers that are looked through and copied: contracts. -/
import Derived.Test.YthfccacopffkgaaSoI
import Derived.Test.YthfccacopffkgaaCh
namespace Go.Proofs.Ythfccacopffkgaa
open Go.Am
set_option linter.unusedSimpArgs false
set_option linter.unusedVariables false
noncomputable section

theorem fin_same {n : Nat} {v : AV} {H : AH} : ∃ v', some v = some v' ∧ Wk n [(0, v')] H ([(0, v)], H) :=
  ⟨_, rfl, fun ρ _ _ h1 h2 => ⟨ρ, h1, h2, fun i _ hi hL _ => ⟨i, hi, hL⟩, fun _ _ => rfl⟩⟩
/-- where a number stands first: -1 where it doesn't -/
def idxI (K : List Int) (k : Int) : Int := match K.findIdx? (fun x => decide (k = x)) with
  | some i => (i : Int)
  | none => -1
def s_lidx (args : List AV) (H : AH) : Option AV :=
  match args with
  | [.c x, .c (.i k)] =>
    match slD 1 dcI H x with
    | some K => if K.length ≤ 1000000 then some (.c (.i (idxI K k))) else none
    | none => none
  | _ => none
theorem s_lidx_of {x : Sc} {H : AH} {K : List Int} {k : Int} (h : slD 1 dcI H x = some K) (hl : K.length ≤ 1000000) : s_lidx [.c x, .c (.i k)] H = some (.c (.i (idxI K k))) := by
  simp only [s_lidx, h, hl, if_true]
set_option maxRecDepth 100000 in
set_option maxHeartbeats 2000000 in
theorem ok_lidx : FpOk Try.prog 47 (fun args H => (s_lidx args H).map fun v => (v, H)) := by
  refine fq_ok (s := s_lidx) (tab := []) hmix TabOk.nil Try.func47 rfl Try.results47 Try.ntmps47 (by kernel_rfl) (by kernel_rfl) ?_
  intro args H v h hargs hH
  unfold s_lidx at h
  split at h
  · rename_i x q
    split at h
    · rename_i K hK
      split at h
      · rename_i hn
        simp only [Option.some.injEq] at h
        subst h
        refine ⟨by simp only [List.length_cons, List.length_nil]; decide, rfl, ?_⟩
        have bx : x.bel H.length = true := by simp only [List.all_cons, AV.bel, Bool.and_eq_true] at hargs; exact hargs.1
        have hx := slD_inv dcI_d hK
        have xl : ∀ e, lenB (.sl e) (.c x) = some (.c (.i K.length)) := by
          intro e
          rcases hx with ⟨rfl, rfl⟩ | ⟨id2, v2, rfl, _, _⟩ <;> rfl
        (try simp (config := { maxSteps := 10000000 }) only [go_sem, seval, xl]; repeat (simp (disch := omega) only [w64_d, ipos, ineg, dpos, dneg]; try simp (config := { maxSteps := 10000000 }) only [go_sem, seval, xl]))
        rw [arun_loop]
        refine ⟨{k : Nat // k ≤ K.length ∧ ∀ j, j < k → ∀ y, K[j]? = some y → q ≠ y}, fun k => ([(0, .c x), (1, .c (.i q)), (7, .c (.i K.length)), (8, .c (.i k.1))], H), fun k => K.length - k.1, ⟨0, by omega, fun j hj => absurd hj (Nat.not_lt_zero _)⟩, ?_, ?_⟩
        · exact Wk.wk (by simp [lo]) (by simp [Am.get]) (by simp only [List.all_cons, List.all_nil, Bool.and_true, Bool.and_eq_true, AV.bel]; exact ⟨bx, rfl, rfl, rfl⟩) (subH_refl _) hH
        · rintro ⟨k, hk, hj⟩
          have k0 : (0 : Int) ≤ (k : Int) := by omega
          by_cases hlt : k < K.length
          rotate_left
          · obtain rfl : k = K.length := by omega
            have e : idxI K q = -1 := by
              unfold idxI
              rw [List.findIdx?_eq_none_iff.2 (fun y hy => by
                obtain ⟨j, hjl, rfl⟩ := List.mem_iff_getElem.1 hy
                simpa using hj j hjl _ (List.getElem?_eq_getElem hjl))]
            (try simp (config := { maxSteps := 10000000 }) only [go_sem, seval, e]; repeat (simp (disch := omega) only [w64_d, ipos, ineg, dpos, dneg]; try simp (config := { maxSteps := 10000000 }) only [go_sem, seval, e]))
            exact subH_refl _
          have kI : ((k : Int) < (K.length : Int)) := by omega
          obtain ⟨y, hy⟩ : ∃ y, K[k]? = some y := ⟨_, List.getElem?_eq_getElem hlt⟩
          have e1 : w64 ((k : Int) + 1) = ((k + 1 : Nat) : Int) := by rw [w64_d (by omega) (by omega)]; omega
          rcases hx with ⟨rfl, rfl⟩ | ⟨i1, v1, rfl, hv1, hcs1⟩
          · simp at hlt
          have hv1 := hv1.symm
          have g1 : (hg H i1).cells.getD k .any = .i y := by rw [hcs1]; exact fm1 (g := Sc.i) (fun _ => rfl) hy
          have b1 : k + 1 ≤ (hg H i1).cells.length := by
            rw [hcs1]
            have := fm_le encI_l (L := K) (k := k) hlt
            omega
          by_cases hq : q = y
          · have e : idxI K q = (k : Int) := by
              unfold idxI
              rw [List.findIdx?_eq_some_iff_getElem.2 ⟨hlt, by rw [List.getElem?_eq_getElem hlt] at hy; simp at hy; simp [hy, hq], fun j hjl => by
                have := hj j hjl _ (List.getElem?_eq_getElem (by omega))
                simpa using this⟩]
            subst hq
            (try simp (config := { maxSteps := 10000000 }) only [go_sem, seval, kI, k0, hv1, b1, g1, e]; repeat (simp (disch := omega) only [w64_d, ipos, ineg, dpos, dneg]; try simp (config := { maxSteps := 10000000 }) only [go_sem, seval, kI, k0, hv1, b1, g1, e]))
            exact subH_refl _
          · (try simp (config := { maxSteps := 10000000 }) only [go_sem, seval, kI, k0, hv1, b1, g1, hq, e1]; repeat (simp (disch := omega) only [w64_d, ipos, ineg, dpos, dneg]; try simp (config := { maxSteps := 10000000 }) only [go_sem, seval, kI, k0, hv1, b1, g1, hq, e1]))
            exact ⟨⟨k + 1, by omega, fun j hj' z hz => by
              rcases Nat.lt_succ_iff_lt_or_eq.1 hj' with h' | rfl
              · exact hj j h' z hz
              · rw [hy] at hz; simp at hz; subst hz; exact hq⟩, by simp only; omega, Wk.wk (by simp [lo]) (by simp [Am.get]) (by simp only [List.all_cons, List.all_nil, Bool.and_true, Bool.and_eq_true, AV.bel]; exact ⟨bx, rfl, rfl, rfl⟩) (subH_refl _) hH⟩
      · simp at h
    · simp at h
  · simp at h
theorem idx_in (K : List Int) (k : Int) : decide (0 ≤ idxI K k) = decide (k ∈ K) := by
  unfold idxI
  cases h : K.findIdx? (fun x => decide (k = x)) with
  | none =>
    have := List.findIdx?_eq_none_iff.1 h
    have hn : ¬ k ∈ K := fun hk => by have := this k hk; simp at this
    simp [hn]
  | some i =>
    obtain ⟨hi, h1, _⟩ := List.findIdx?_eq_some_iff_getElem.1 h
    have hk : k ∈ K := by simp at h1; rw [h1]; exact List.getElem_mem hi
    simp [hk]
def s_lcon (args : List AV) (H : AH) : Option AV :=
  match args with
  | [.c x, .c (.i k)] =>
    match slD 1 dcI H x with
    | some K => if K.length ≤ 1000000 then some (.c (.b (decide (k ∈ K)))) else none
    | none => none
  | _ => none
theorem s_lcon_of {x : Sc} {H : AH} {K : List Int} {k : Int} (h : slD 1 dcI H x = some K) (hl : K.length ≤ 1000000) : s_lcon [.c x, .c (.i k)] H = some (.c (.b (decide (k ∈ K)))) := by
  simp only [s_lcon, h, hl, if_true]
set_option maxRecDepth 100000 in
set_option maxHeartbeats 2000000 in
theorem ok_lcon : FpOk Try.prog 37 (fun args H => (s_lcon args H).map fun v => (v, H)) := by
  refine fq_ok (s := s_lcon) (tab := [(47, .fq s_lidx)]) hmix (TabOk.cons (e := .fq s_lidx) ok_lidx TabOk.nil) Try.func37 rfl Try.results37 Try.ntmps37 (by kernel_rfl) (by kernel_rfl) ?_
  intro args H v h hargs hH
  unfold s_lcon at h
  split at h
  · rename_i x q
    split at h
    · rename_i K hK
      split at h
      · rename_i hn
        simp only [Option.some.injEq] at h
        subst h
        refine ⟨by simp only [List.length_cons, List.length_nil]; decide, rfl, ?_⟩
        have q1 := s_lidx_of (k := q) hK hn
        have q2 := idx_in K q
        (try simp (config := { maxSteps := 10000000 }) only [go_sem, seval, q1, q2]; repeat (simp (disch := omega) only [w64_d, ipos, ineg, dpos, dneg]; try simp (config := { maxSteps := 10000000 }) only [go_sem, seval, q1, q2]))
        exact subH_refl _
      · simp at h
    · simp at h
  · simp at h
/-! ### copies -/
def cloneI (H : AH) (x : Sc) : Option (Sc × AH) :=
  match x with
  | .nils => some (.sl H.length 0 0 0, H ++ [.vec 1 []])
  | .sl i o v n => if v = (hg H i).row ∧ o + n ≤ (hg H i).cells.length ∧ (((hg H i).cells.drop o).take n).all Sc.one = true ∧ n ≤ 1000000 then some (.sl H.length 0 n n, H ++ [.vec 1 (((hg H i).cells.drop o).take n)]) else none
  | _ => none
def s_lclone (args : List AV) (H : AH) : Option (AV × AH) :=
  match args with
  | [.c x] => (cloneI H x).map fun r => (.c r.1, r.2)
  | _ => none
theorem cloneI_len {H : AH} {x x' : Sc} {H1 : AH} (h : cloneI H x = some (x', H1)) : H.length ≤ H1.length := by
  unfold cloneI at h
  repeat' split at h
  all_goals simp at h
  all_goals rw [← h.2]
  all_goals simp
theorem len_lclone (args : List AV) (H : AH) (v : AV) (H1 : AH) (h : s_lclone args H = some (v, H1)) : H.length ≤ H1.length := by
  unfold s_lclone at h
  split at h
  · rw [Option.map_eq_some_iff] at h
    obtain ⟨r, h1, h2⟩ := h
    simp only [Prod.mk.injEq] at h2
    rw [← h2.2]
    exact cloneI_len h1
  · simp at h
theorem s_lclone_eq {x x' : Sc} {H H1 : AH} (h : cloneI H x = some (x', H1)) : s_lclone [.c x] H = some (.c x', H1) := by
  simp only [s_lclone, h, Option.map_some]
theorem fin_nilI {n : Nat} {H : AH} (hb : belH H = true) (hn : n ≤ H.length) : ∃ v', some (AV.c .nils) = some v' ∧ Wk n [(0, v')] H ([(0, .c (.sl H.length 0 0 0))], H ++ [.vec 1 []]) :=
  ⟨_, rfl, Wk.trans (Wk.nil 0 1 (by decide) rfl hn) (Wk.wk (by simp; omega) (by simp [Am.get]) (by simp [AV.bel, Sc.bel]) (subH_refl _) (belH_app hb (by simp [AObj.cells, AObj.scs])))⟩
set_option maxRecDepth 100000 in
set_option maxHeartbeats 2000000 in
theorem ok_lclone : FpOk Try.prog 32 s_lclone := by
  refine fp_ok (s := s_lclone) (tab := []) hmix TabOk.nil Try.func32 rfl Try.results32 Try.ntmps32 (by kernel_rfl) (by kernel_rfl) len_lclone ?_
  intro args H v H1 h hargs hH
  unfold s_lclone at h
  split at h
  · rename_i x
    rw [Option.map_eq_some_iff] at h
    obtain ⟨⟨x', H2⟩, h1, h2⟩ := h
    simp only [Prod.mk.injEq] at h2
    obtain ⟨rfl, rfl⟩ := h2
    refine ⟨by simp only [List.length_cons, List.length_nil]; decide, ?_⟩
    unfold cloneI at h1
    split at h1
    · simp only [Option.some.injEq, Prod.mk.injEq] at h1
      obtain ⟨rfl, rfl⟩ := h1
      (try simp (config := { maxSteps := 10000000 }) only [go_sem, seval]; repeat (simp (disch := omega) only [w64_d, ipos, ineg, dpos, dneg]; try simp (config := { maxSteps := 10000000 }) only [go_sem, seval]))
      exact fin_nilI hH (Nat.le_refl _)
    · rename_i i o v n
      split at h1
      · rename_i hc
        obtain ⟨c1, c2, c3, c4⟩ := hc
        simp only [Option.some.injEq, Prod.mk.injEq] at h1
        obtain ⟨rfl, rfl⟩ := h1
        have li : i < H.length := by simpa [AV.bel, Sc.bel] using hargs
        have gi : ∀ X, hg (H ++ X) i = hg H i := fun X => hg_lt' li
        have c5 : n * 8 ≤ 1099511627776 := by omega
        generalize hq : ((hg H i).cells.drop o).take n = q at c3 ⊢
        have lq : q.length = n := by rw [← hq]; simp; omega
        have bq : q.all (Sc.bel H.length) = true := by
          have := bel_at hH i
          rw [← hq]
          exact List.all_eq_true.2 fun s hs => List.all_eq_true.1 this s (List.mem_of_mem_drop (List.mem_of_mem_take hs))
        have fin : ∃ v', some (AV.c (.sl H.length 0 n n)) = some v' ∧ Wk H.length [(0, v')] (H ++ [.vec 1 q]) ([(0, .c (.sl H.length 0 n n))], H ++ [.vec 1 q]) := by
          apply fin_fp
          · simp [AV.bel, Sc.bel]
          · exact subH_refl _
          · refine belH_app hH ?_
            simp only [List.mem_singleton, forall_eq, AObj.cells, AObj.scs]
            exact List.all_eq_true.2 fun s hs => Sc.bel_mono (List.all_eq_true.1 bq s hs) (by simp)
          · simp
        by_cases hz : n = 0
        · subst hz
          obtain rfl : q = [] := List.eq_nil_of_length_eq_zero lq
          (try simp (config := { maxSteps := 10000000 }) only [go_sem, seval, cnd_qq, c1, c2, c3, c5, gi, hq, lq]; repeat (simp (disch := omega) only [w64_d, ipos, ineg, dpos, dneg]; try simp (config := { maxSteps := 10000000 }) only [go_sem, seval, cnd_qq, c1, c2, c3, c5, gi, hq, lq]))
          exact ⟨fin_nilI hH (Nat.le_refl _), fin⟩
        · (try simp (config := { maxSteps := 10000000 }) only [go_sem, seval, c1, c2, c3, c5, gi, hq, lq, hz]; repeat (simp (disch := omega) only [w64_d, ipos, ineg, dpos, dneg]; try simp (config := { maxSteps := 10000000 }) only [go_sem, seval, c1, c2, c3, c5, gi, hq, lq, hz]))
          exact fin
      · simp at h1
    · simp at h1
  · simp at h
/-! ### lists of numbers in memory -/
/-- the object that a slice leads to -/
def sidI : Sc → Option Nat
  | .sl i _ _ _ => some i
  | _ => none
def isx (H : AH) (x : Sc) (A : List Int) : Prop := (x = .nils ∧ A = []) ∨ ∃ i, x = .sl i 0 A.length A.length ∧ hg H i = .vec 1 (A.flatMap encI)
theorem isx_sl {H : AH} {x : Sc} {A : List Int} (h : isx H x A) : slD 1 dcI H x = some A := by
  rcases h with ⟨rfl, rfl⟩ | ⟨i, rfl, hi⟩
  · rfl
  · exact slD_of encI_l dcI_e (by rw [hi]; simp [AObj.row, fm_len encI_l]) rfl (by rw [hi]; rfl)
theorem encI_gI (A : List Int) : A.flatMap encI = A.map gI := flatMap1 A
theorem isx_sp {H : AH} {x : Sc} {A : List Int} (h : isx H x A) : slP dcI H x = some A := by
  rcases h with ⟨rfl, rfl⟩ | ⟨i, rfl, hi⟩
  · rfl
  · rw [encI_gI] at hi; exact slP_vec (fun _ => rfl) hi rfl rfl
theorem isx_lt {H : AH} {x : Sc} {A : List Int} (h : isx H x A) {i : Nat} (hi : sidI x = some i) : i < H.length ∧ hg H i = .vec 1 (A.flatMap encI) := by
  rcases h with ⟨rfl, rfl⟩ | ⟨j, rfl, hj⟩
  · simp [sidI] at hi
  · simp only [sidI, Option.some.injEq] at hi
    subst hi
    exact ⟨hg_lt (by rw [hj]; rfl), hj⟩
theorem isx_frame {H K : AH} {x : Sc} {A : List Int} (h : isx H x A) (hk : ∀ i, sidI x = some i → hg K i = hg H i) : isx K x A := by
  rcases h with ⟨rfl, rfl⟩ | ⟨i, rfl, hi⟩
  · exact .inl ⟨rfl, rfl⟩
  · exact .inr ⟨i, rfl, by rw [hk i rfl, hi]⟩
theorem encI_inj {A B : List Int} (h : A.flatMap encI = B.flatMap encI) : A = B := by
  rw [encI_gI, encI_gI] at h
  exact (List.map_inj_right (f := gI) (fun x y e => by simpa [gI] using e)).1 h
theorem isx_uniq {H : AH} {x : Sc} {A B : List Int} (h : isx H x A) (h' : isx H x B) : A = B := by
  rcases h with ⟨rfl, rfl⟩ | ⟨i, rfl, hi⟩ <;> rcases h' with ⟨h1, rfl⟩ | ⟨j, h1, hj⟩
  · rfl
  · simp at h1
  · simp at h1
  · simp only [Sc.sl.injEq] at h1
    obtain ⟨rfl, _⟩ := h1
    rw [hi] at hj
    simp only [AObj.vec.injEq, true_and] at hj
    exact encI_inj hj
theorem encI_one (A : List Int) : (A.flatMap encI).all Sc.one = true := by
  rw [encI_gI, List.all_map]
  exact List.all_eq_true.2 fun _ _ => rfl
theorem isx_clone {H : AH} {x : Sc} {A : List Int} (h : isx H x A) (hs : A.length ≤ 1000000) : cloneI H x = some (.sl H.length 0 A.length A.length, H ++ [.vec 1 (A.flatMap encI)]) := by
  rcases h with ⟨rfl, rfl⟩ | ⟨i, rfl, hi⟩
  · rfl
  · have l : (A.flatMap encI).length = A.length := by rw [fm_len encI_l, Nat.mul_one]
    have e : (A.flatMap encI).take A.length = A.flatMap encI := List.take_of_length_le (by omega)
    simp only [cloneI, hi, AObj.row, AObj.cells, AObj.scs, List.drop_zero, e, l]
    rw [if_pos ⟨trivial, by omega, encI_one A, hs⟩]
theorem isx_tail {H : AH} {i : Nat} {a : Int} {A : List Int} (hi : hg H i = .vec 1 ((a :: A).flatMap encI)) (hs : A.length ≤ 1000000) :
    cloneI H (.sl i 1 (A.length + 1) A.length) = some (.sl H.length 0 A.length A.length, H ++ [.vec 1 (A.flatMap encI)]) := by
  have l : ((a :: A).flatMap encI).length = A.length + 1 := by rw [fm_len encI_l]; simp
  have l2 : (A.flatMap encI).length = A.length := by rw [fm_len encI_l, Nat.mul_one]
  have e : (A.flatMap encI).take A.length = A.flatMap encI := List.take_of_length_le (by omega)
  have e2 : ((a :: A).flatMap encI).drop 1 = A.flatMap encI := rfl
  simp only [cloneI, hi, AObj.row, AObj.cells, AObj.scs, e2, e, l, List.length_cons]
  rw [if_pos ⟨trivial, by omega, encI_one A, hs⟩]
theorem isx_app {H : AH} (X : AH) {x : Sc} {A : List Int} (h : isx H x A) : isx (H ++ X) x A := isx_frame h fun i hi => hg_lt' (isx_lt h hi).1
end
end Go.Proofs.Ythfccacopffkgaa
