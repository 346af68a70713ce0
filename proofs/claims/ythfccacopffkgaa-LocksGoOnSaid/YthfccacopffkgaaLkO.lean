/- Layer 12: what a job needs, and its step, as the document says: contracts. -/
import Derived.Test.YthfccacopffkgaaLkN
namespace Go.Proofs.Ythfccacopffkgaa
open Go.Am
set_option linter.unusedSimpArgs false
set_option linter.unusedVariables false
noncomputable section
set_option maxRecDepth 100000

/-! ### plain: the least one that is more than the last one -/
theorem nN_spec (A : List Int) : (nN A).Pairwise (fun x y => x < y) ∧ (∀ y, y ∈ nN A ↔ y ∈ A) ∧ (nN A).length ≤ A.length := by
  have hs : (srt ltI A).Pairwise fun x y => ltI y x = false := srt_sorted linI
  obtain ⟨h1, h2⟩ := ddp_spec linI hs
  refine ⟨h1.imp fun h => by simpa [ltI] using h, fun y => ?_, ?_⟩
  · unfold nN
    rw [h2, srt_mem]
  · have a := dd_le (A := srt ltI A)
    have b : (srt ltI A).length = A.length := srt_len
    unfold nN
    omega
def okN (A : List Int) (j : Nat) (x : Int) : Prop := j = 0 ∨ ∃ y, (nN A)[j - 1]? = some y ∧ y < x
theorem ok_iff {A : List Int} {j : Nat} (hj : j ≤ (nN A).length) {x : Int} (hx : x ∈ A) : okN A j x ↔ ∃ m, j ≤ m ∧ (nN A)[m]? = some x := by
  obtain ⟨h1, h2, _⟩ := nN_spec A
  rw [List.pairwise_iff_getElem] at h1
  obtain ⟨m, hm, rfl⟩ := List.mem_iff_getElem.1 ((h2 x).2 hx)
  constructor
  · intro h
    refine ⟨m, ?_, List.getElem?_eq_getElem hm⟩
    rcases h with rfl | ⟨y, hy, hlt⟩
    · exact Nat.zero_le _
    · rcases Nat.lt_or_ge m j with c | c
      · exfalso
        have hj1 : j - 1 < (nN A).length := by omega
        rw [List.getElem?_eq_getElem hj1, Option.some.injEq] at hy
        subst hy
        rcases Nat.lt_or_ge m (j - 1) with c2 | c2
        · have := h1 m (j - 1) hm hj1 c2; omega
        · have : m = j - 1 := by omega
          subst this; omega
      · exact c
  · rintro ⟨k, hk, e⟩
    by_cases j0 : j = 0
    · exact .inl j0
    · right
      have hj1 : j - 1 < (nN A).length := by omega
      refine ⟨(nN A)[j - 1], List.getElem?_eq_getElem hj1, ?_⟩
      have hk2 : k < (nN A).length := by
        rcases Nat.lt_or_ge k (nN A).length with c | c
        · exact c
        · rw [List.getElem?_eq_none c] at e; simp at e
      rw [List.getElem?_eq_getElem hk2, Option.some.injEq] at e
      rw [← e]
      exact h1 (j - 1) k hj1 hk2 (by omega)
/-- the least one so far -/
def Lst (A : List Int) (j i : Nat) : Option Nat → Prop
  | none => ∀ k x, k < i → A[k]? = some x → ¬ okN A j x
  | some b => ∃ y, b < i ∧ A[b]? = some y ∧ okN A j y ∧ ∀ k x, k < i → A[k]? = some x → okN A j x → y ≤ x
theorem lst_end {A : List Int} {j : Nat} (hj : j ≤ (nN A).length) {b : Option Nat} (h : Lst A j A.length b) : match b with | none => j = (nN A).length | some b => ∃ y, A[b]? = some y ∧ (nN A)[j]? = some y := by
  obtain ⟨h1, h2, _⟩ := nN_spec A
  have ex : j < (nN A).length → ∃ k x, k < A.length ∧ A[k]? = some x ∧ (nN A)[j]? = some x ∧ okN A j x := fun hlt => by
    have hm := (h2 (nN A)[j]).1 (List.getElem_mem hlt)
    obtain ⟨k, hk, e⟩ := List.mem_iff_getElem.1 hm
    exact ⟨k, _, hk, by rw [List.getElem?_eq_getElem hk, e], List.getElem?_eq_getElem hlt, (ok_iff hj hm).2 ⟨j, Nat.le_refl _, List.getElem?_eq_getElem hlt⟩⟩
  cases b with
  | none =>
    simp only [Lst] at h
    simp only
    rcases Nat.lt_or_ge j (nN A).length with c | c
    · obtain ⟨k, x, e1, e2, _, e4⟩ := ex c
      exact absurd e4 (h k x e1 e2)
    · omega
  | some b =>
    simp only [Lst] at h
    obtain ⟨y, y1, y2, y3, y4⟩ := h
    refine ⟨y, y2, ?_⟩
    obtain ⟨m, m1, m2⟩ := (ok_iff hj (List.mem_of_getElem? y2)).1 y3
    have hm : m < (nN A).length := by
      rcases Nat.lt_or_ge m (nN A).length with c | c
      · exact c
      · rw [List.getElem?_eq_none c] at m2; simp at m2
    obtain ⟨k, x, e1, e2, e3, e4⟩ := ex (by omega)
    have := y4 k x e1 e2 e4
    rw [List.pairwise_iff_getElem] at h1
    rcases Nat.lt_or_ge j m with c | c
    · have hjl : j < (nN A).length := by omega
      have := h1 j m hjl hm c
      rw [List.getElem?_eq_getElem hm, Option.some.injEq] at m2
      rw [List.getElem?_eq_getElem hjl, Option.some.injEq] at e3
      omega
    · have : j = m := by omega
      rw [this]; exact m2
section
variable {H : AH}
def q_rlneed (args : List AV) (H : AH) (v : AV) (H1 : AH) : Prop := ∀ x A, args = [.c x] → slD 1 dcI H x = some A → A.length ≤ 12 → v = .c (.sl H.length 0 (nN A).length (nN A).length) ∧ H1 = H ++ [.vec 1 ((nN A).flatMap encI)]
def s_rlneed : List AV → AH → Option (AV × AH) := frS Try.prog [] 24 q_rlneed
set_option maxRecDepth 100000 in
set_option maxHeartbeats 2000000 in
theorem ok_rlneed : FpOk Try.prog 24 s_rlneed := frS_ok hmix TabOk.nil Try.func24 rfl Try.results24 Try.ntmps24 (by kernel_rfl) (by kernel_rfl)
def bI (b : Option Nat) : Int := match b with | some b => (b : Int) | none => -1
theorem s_rlneed_eq {x : Sc} {A : List Int} (hA : slD 1 dcI H x = some A) (hl : A.length ≤ 12) (hx0 : x.bel H.length = true) : s_rlneed [.c x] H = some (.c (.sl H.length 0 (nN A).length (nN A).length), H ++ [.vec 1 ((nN A).flatMap encI)]) := by
  have : ∃ v H1, s_rlneed [.c x] H = some (v, H1) ∧ H.length ≤ H1.length ∧ q_rlneed [.c x] H v H1 := by
    obtain ⟨n1, n2, n3⟩ := nN_spec A
    have xl : ∀ e, lenB (.sl e) (.c x) = some (.c (.i A.length)) := by
      intro e
      rcases slD_inv dcI_d hA with ⟨rfl, rfl⟩ | ⟨id, v, rfl, _⟩ <;> rfl
    have xs : (lenB (.sl 0) (.c x)).isSome = true := by rw [xl]; rfl
    unfold s_rlneed
    apply frS_ex (v := .c (.sl H.length 0 (nN A).length (nN A).length)) (H1 := H ++ [.vec 1 ((nN A).flatMap encI)]) Try.func24 rfl Try.results24 Try.ntmps24 (by simp only [List.length_cons, List.length_nil]; decide)
    · intro ha hH
      have bb : ∀ L : List Int, belH (H ++ [.vec 1 (L.flatMap encI)]) = true := fun L => belH_app hH (by simp only [List.mem_cons, List.not_mem_nil, or_false, forall_eq]; rw [encI_gI]; exact map_bel gI_num _ _)
      have bx1 : Sc.bel (H.length + 1) x = true := Sc.bel_mono hx0 (by omega)
      (try simp (config := { maxSteps := 10000000 }) only [go_sem, seval]; repeat (simp (disch := omega) only [w64_d, ipos, ineg, dpos, dneg]; try simp (config := { maxSteps := 10000000 }) only [go_sem, seval]))
      refine arun_for (nN A).length (fun j => ([(0, .c x), (3, .c (.sl H.length 0 ((nN A).take j).length ((nN A).take j).length))], H ++ [.vec 1 (((nN A).take j).flatMap encI)])) ?_ fun j hj => ?_
      · refine Wk.trans (Wk.nil 3 1 (by decide) rfl (by simp [lo])) (Wk.wk (by simp [lo]) (by simp [Am.get]) (by simp only [List.all_cons, List.all_nil, AV.bel, List.length_append, List.length_cons, List.length_nil, bx1]; simp [Sc.bel]) ?_ (bb _))
        exact subH_refl _
      · have tl : ((nN A).take j).length = j := by rw [List.length_take]; omega
        have eL : (((nN A).take j).flatMap encI).length = j := by rw [fm_len encI_l, tl, Nat.mul_one]
        by_cases hfull : (j : Int) < A.length
        rotate_left
        · have : j = (nN A).length := by omega
          subst this
          have hf' : ¬ (((nN A).length : Nat) : Int) < (A.length : Int) := hfull
          rw [List.take_length]
          (try simp (config := { maxSteps := 10000000 }) only [go_sem, seval, xl, xs, as_len_y, hf']; repeat (simp (disch := omega) only [w64_d, ipos, ineg, dpos, dneg]; try simp (config := { maxSteps := 10000000 }) only [go_sem, seval, xl, xs, as_len_y, hf']))
          exact fin_same
        (try simp (config := { maxSteps := 10000000 }) only [go_sem, seval, xl, xs, as_len_y, hfull, tl]; repeat (simp (disch := omega) only [w64_d, ipos, ineg, dpos, dneg]; try simp (config := { maxSteps := 10000000 }) only [go_sem, seval, xl, xs, as_len_y, hfull, tl]))
        rw [arun_loop]
        refine ⟨{s : Nat × Option Nat // s.1 ≤ A.length ∧ Lst A j s.1 s.2}, fun s => ([(0, .c x), (3, .c (.sl H.length 0 j j)), (4, .c (.i (bI s.1.2))), (5, .c (.i s.1.1))], H ++ [.vec 1 (((nN A).take j).flatMap encI)]), fun s => A.length - s.1.1, ⟨(0, none), by omega, fun k _ hk => absurd hk (Nat.not_lt_zero _)⟩, wkFL (by simp [Am.get, bI]), ?_⟩
        rintro ⟨⟨i, b⟩, hi, hb⟩
        simp only at hi hb
        by_cases hil : i < A.length
        rotate_left
        · obtain rfl : i = A.length := by omega
          have hi' : ¬ ((A.length : Int) < A.length) := by omega
          have le := lst_end hj hb
          cases b with
          | none =>
            simp only at le
            subst le
            rw [List.take_length]
            (try simp (config := { maxSteps := 10000000 }) only [go_sem, seval, xl, xs, as_len_y, hi', bI]; repeat (simp (disch := omega) only [w64_d, ipos, ineg, dpos, dneg]; try simp (config := { maxSteps := 10000000 }) only [go_sem, seval, xl, xs, as_len_y, hi', bI]))
            exact fin_same
          | some b =>
            simp only at le
            obtain ⟨y, y1, y2⟩ := le
            have bl : b < A.length := by
              rcases Nat.lt_or_ge b A.length with c | c
              · exact c
              · rw [List.getElem?_eq_none c] at y1; simp at y1
            have jl : j < (nN A).length := by
              rcases Nat.lt_or_ge j (nN A).length with c | c
              · exact c
              · rw [List.getElem?_eq_none c] at y2; simp at y2
            rcases slD_inv dcI_d hA with ⟨rfl, rfl⟩ | ⟨id, v, rfl, hv, hcs⟩
            · simp at bl
            have lid : id < H.length := by simpa [Sc.bel] using hx0
            have gX : ∀ X, hg (H ++ X) id = hg H id := fun X => hg_lt' lid
            have c0 : (hg H id).cells.getD b .any = .i y := by rw [hcs]; exact fm1 (g := Sc.i) (fun _ => rfl) y1
            have c1 : b + 1 ≤ (hg H id).cells.length := by
              rw [hcs]
              have := fm_le encI_l (L := A) (k := b) bl
              omega
            have hv' := hv.symm
            have b0 : (0 : Int) ≤ (b : Int) := by omega
            have b1 : ¬ ((b : Int) < 0) := by omega
            have b2 : (b : Int) < A.length := by omega
            have k5 : (j + 1) * 8 ≤ 1099511627776 := by omega
            have tk : (nN A).take (j + 1) = (nN A).take j ++ [y] := by
              rw [List.take_succ_eq_append_getElem jl]
              rw [List.getElem?_eq_getElem jl, Option.some.injEq] at y2
              rw [y2]
            (try simp (config := { maxSteps := 10000000 }) only [go_sem, seval, xl, xs, as_len_y, hi', bI, b0, b1, b2, gX, hv', c0, c1, eL, k5, Int.toNat_natCast]; repeat (simp (disch := omega) only [w64_d, ipos, ineg, dpos, dneg]; try simp (config := { maxSteps := 10000000 }) only [go_sem, seval, xl, xs, as_len_y, hi', bI, b0, b1, b2, gX, hv', c0, c1, eL, k5, Int.toNat_natCast]))
            refine ⟨j + 1, by omega, by omega, ?_⟩
            rw [tk]
            exact Wk.wk (by simp [lo]) (by simp [Am.get]; omega) (by simp [AV.bel, Sc.bel]; omega) (subH_pre _ ⟨.inr (by rw [fm_app]; rfl), trivial⟩) (bb _)
        · obtain ⟨a, ha'⟩ : ∃ a, A[i]? = some a := ⟨_, List.getElem?_eq_getElem hil⟩
          rcases slD_inv dcI_d hA with ⟨rfl, rfl⟩ | ⟨id, v, rfl, hv, hcs⟩
          · simp at hil
          have lid : id < H.length := by simpa [Sc.bel] using hx0
          have gX : ∀ X, hg (H ++ X) id = hg H id := fun X => hg_lt' lid
          have cc : ∀ {k : Nat} {y : Int}, A[k]? = some y → (hg H id).cells.getD k .any = .i y ∧ k + 1 ≤ (hg H id).cells.length := fun {k y} hy => by
            rw [hcs]
            refine ⟨fm1 (g := Sc.i) (fun _ => rfl) hy, ?_⟩
            have hk : k < A.length := by
              rcases Nat.lt_or_ge k A.length with c | c
              · exact c
              · rw [List.getElem?_eq_none c] at hy; simp at hy
            have := fm_le encI_l (L := A) (k := k) hk
            omega
          obtain ⟨c0, c1⟩ := cc ha'
          have hv' := hv.symm
          have i0 : (0 : Int) ≤ (i : Int) := by omega
          have iI : (i : Int) < A.length := by omega
          have f1 : w64 ((i : Int) + 1) = ((i + 1 : Nat) : Int) := by rw [w64_d (by omega) (by omega)]; omega
          have keep : (okN A j a → ∃ b', b = some b' ∧ ∃ y, A[b']? = some y ∧ y ≤ a) → Lst A j (i + 1) b := fun hk => by
            cases b with
            | none =>
              intro k x' hk' hx'
              rcases Nat.lt_succ_iff_lt_or_eq.1 hk' with h' | rfl
              · exact hb k x' h' hx'
              · rw [ha', Option.some.injEq] at hx'
                subst hx'
                intro ho
                obtain ⟨b', e, _⟩ := hk ho
                simp at e
            | some b =>
              obtain ⟨y, y1, y2, y3, y4⟩ := hb
              refine ⟨y, by omega, y2, y3, fun k x' hk' hx' ho => ?_⟩
              rcases Nat.lt_succ_iff_lt_or_eq.1 hk' with h' | rfl
              · exact y4 k x' h' hx' ho
              · rw [ha', Option.some.injEq] at hx'
                subst hx'
                obtain ⟨b', e, y', e1, e2⟩ := hk ho
                simp only [Option.some.injEq] at e
                subst e
                rw [y2, Option.some.injEq] at e1
                omega
          have take : okN A j a → (∀ b', b = some b' → ∀ y, A[b']? = some y → a < y) → Lst A j (i + 1) (some i) := fun ho hk => by
            refine ⟨a, by omega, ha', ho, fun k x' hk' hx' hox => ?_⟩
            rcases Nat.lt_succ_iff_lt_or_eq.1 hk' with h' | rfl
            · cases b with
              | none => exact absurd hox (hb k x' h' hx')
              | some b =>
                obtain ⟨y, y1, y2, y3, y4⟩ := hb
                have := hk b rfl y y2
                have := y4 k x' h' hx' hox
                omega
            · rw [ha', Option.some.injEq] at hx'
              omega
          have fin : ∀ (b2 : Option Nat), Lst A j (i + 1) b2 → ∀ fr' : Fr, (∀ p ∈ [(0, AV.c (.sl id 0 v A.length)), (3, .c (.sl H.length 0 j j)), (4, .c (.i (bI b2))), (5, .c (.i ((i + 1 : Nat) : Int)))], Am.get fr' p.1 = p.2) → ∃ s : {s : Nat × Option Nat // s.1 ≤ A.length ∧ Lst A j s.1 s.2}, A.length - s.1.1 < A.length - i ∧ Wk (lo [(1000000, Ent.lo H.length)]) fr' (H ++ [.vec 1 (((nN A).take j).flatMap encI)]) ([(0, .c (.sl id 0 v A.length)), (3, .c (.sl H.length 0 j j)), (4, .c (.i (bI s.1.2))), (5, .c (.i s.1.1))], H ++ [.vec 1 (((nN A).take j).flatMap encI)]) := fun b2 hb2 fr' hf =>
            ⟨⟨(i + 1, b2), by omega, hb2⟩, by simp only; omega, wkFL hf⟩
          by_cases j0 : j = 0
          · subst j0
            have ok : okN A 0 a := .inl rfl
            cases b with
            | none =>
              (try simp (config := { maxSteps := 10000000 }) only [go_sem, seval, xl, xs, as_len_y, iI, i0, f1, bI]; repeat (simp (disch := omega) only [w64_d, ipos, ineg, dpos, dneg]; try simp (config := { maxSteps := 10000000 }) only [go_sem, seval, xl, xs, as_len_y, iI, i0, f1, bI]))
              (repeat' first | apply And.intro | (intro _; kernel_rfl) | kernel_rfl)
              exact fin (some i) (take ok (fun b' e => by simp at e)) _ (by simp [Am.get, bI])
            | some b =>
              have hb' := hb
              obtain ⟨y, y1, y2, y3, y4⟩ := hb'
              obtain ⟨d0, d1⟩ := cc y2
              have b0 : (0 : Int) ≤ (b : Int) := by omega
              have b1 : ¬ ((b : Int) < 0) := by omega
              have b2 : (b : Int) < A.length := by omega
              by_cases hlt : a < y
              · have hlt' := eq_true hlt
                (try simp (config := { maxSteps := 10000000 }) only [go_sem, seval, xl, xs, as_len_y, iI, i0, f1, bI, b0, b1, b2, gX, hv', c0, c1, d0, d1, hlt', Int.toNat_natCast]; repeat (simp (disch := omega) only [w64_d, ipos, ineg, dpos, dneg]; try simp (config := { maxSteps := 10000000 }) only [go_sem, seval, xl, xs, as_len_y, iI, i0, f1, bI, b0, b1, b2, gX, hv', c0, c1, d0, d1, hlt', Int.toNat_natCast]))
                (repeat' first | apply And.intro | (intro _; kernel_rfl) | kernel_rfl)
                exact fin (some i) (take ok (fun b' e y' ey => by simp only [Option.some.injEq] at e; subst e; rw [y2, Option.some.injEq] at ey; omega)) _ (by simp [Am.get, bI])
              · (try simp (config := { maxSteps := 10000000 }) only [go_sem, seval, xl, xs, as_len_y, iI, i0, f1, bI, b0, b1, b2, gX, hv', c0, c1, d0, d1, hlt, Int.toNat_natCast]; repeat (simp (disch := omega) only [w64_d, ipos, ineg, dpos, dneg]; try simp (config := { maxSteps := 10000000 }) only [go_sem, seval, xl, xs, as_len_y, iI, i0, f1, bI, b0, b1, b2, gX, hv', c0, c1, d0, d1, hlt, Int.toNat_natCast]))
                (repeat' first | apply And.intro | (intro _; kernel_rfl) | kernel_rfl)
                exact fin (some b) (keep (fun _ => ⟨b, rfl, y, y2, by omega⟩)) _ (by simp [Am.get, bI])
          · have jl : j - 1 < (nN A).length := by omega
            obtain ⟨q, hq⟩ : ∃ q, (nN A)[j - 1]? = some q := ⟨_, List.getElem?_eq_getElem jl⟩
            have jz : ¬ ((j : Int) = 0) := by omega
            have j1 : w64 ((j : Int) - 1) = ((j - 1 : Nat) : Int) := by rw [w64_d (by omega) (by omega)]; omega
            have j2 : (0 : Int) ≤ ((j - 1 : Nat) : Int) := by omega
            have j3 : ((j - 1 : Nat) : Int) < (j : Int) := by omega
            have j4 : j - 1 + 1 ≤ (((nN A).take j).flatMap encI).length := by omega
            have j5 : (((nN A).take j).flatMap encI).getD (j - 1) .any = .i q := fm1 (g := Sc.i) (fun _ => rfl) (by rw [List.getElem?_take_of_lt (by omega), hq])
            have j6 : j - 1 + 1 ≤ j := by omega
            have okq : okN A j a ↔ q < a := by
              unfold okN
              constructor
              · rintro (c | ⟨y, e, hlt⟩)
                · exact absurd c j0
                · rw [hq, Option.some.injEq] at e; omega
              · intro hlt; exact .inr ⟨q, hq, hlt⟩
            by_cases hqa : q < a
            · have hqa' := eq_true hqa
              cases b with
              | none =>
                (try simp (config := { maxSteps := 10000000 }) only [go_sem, seval, xl, xs, as_len_y, iI, i0, f1, bI, jz, j1, j2, j3, j4, j5, j6, eL, gX, hv', c0, c1, hqa', Int.toNat_natCast]; repeat (simp (disch := omega) only [w64_d, ipos, ineg, dpos, dneg]; try simp (config := { maxSteps := 10000000 }) only [go_sem, seval, xl, xs, as_len_y, iI, i0, f1, bI, jz, j1, j2, j3, j4, j5, j6, eL, gX, hv', c0, c1, hqa', Int.toNat_natCast]))
                (repeat' first | apply And.intro | (intro _; kernel_rfl) | kernel_rfl)
                exact fin (some i) (take (okq.2 hqa) (fun b' e => by simp at e)) _ (by simp [Am.get, bI])
              | some b =>
                have hb' := hb
                obtain ⟨y, y1, y2, y3, y4⟩ := hb'
                obtain ⟨d0, d1⟩ := cc y2
                have b0 : (0 : Int) ≤ (b : Int) := by omega
                have b1 : ¬ ((b : Int) < 0) := by omega
                have b2 : (b : Int) < A.length := by omega
                by_cases hlt : a < y
                · have hlt' := eq_true hlt
                  (try simp (config := { maxSteps := 10000000 }) only [go_sem, seval, xl, xs, as_len_y, iI, i0, f1, bI, jz, j1, j2, j3, j4, j5, j6, eL, b0, b1, b2, gX, hv', c0, c1, d0, d1, hqa', hlt', Int.toNat_natCast]; repeat (simp (disch := omega) only [w64_d, ipos, ineg, dpos, dneg]; try simp (config := { maxSteps := 10000000 }) only [go_sem, seval, xl, xs, as_len_y, iI, i0, f1, bI, jz, j1, j2, j3, j4, j5, j6, eL, b0, b1, b2, gX, hv', c0, c1, d0, d1, hqa', hlt', Int.toNat_natCast]))
                  (repeat' first | apply And.intro | (intro _; kernel_rfl) | kernel_rfl)
                  exact fin (some i) (take (okq.2 hqa) (fun b' e y' ey => by simp only [Option.some.injEq] at e; subst e; rw [y2, Option.some.injEq] at ey; omega)) _ (by simp [Am.get, bI])
                · (try simp (config := { maxSteps := 10000000 }) only [go_sem, seval, xl, xs, as_len_y, iI, i0, f1, bI, jz, j1, j2, j3, j4, j5, j6, eL, b0, b1, b2, gX, hv', c0, c1, d0, d1, hqa', hlt, Int.toNat_natCast]; repeat (simp (disch := omega) only [w64_d, ipos, ineg, dpos, dneg]; try simp (config := { maxSteps := 10000000 }) only [go_sem, seval, xl, xs, as_len_y, iI, i0, f1, bI, jz, j1, j2, j3, j4, j5, j6, eL, b0, b1, b2, gX, hv', c0, c1, d0, d1, hqa', hlt, Int.toNat_natCast]))
                  (repeat' first | apply And.intro | (intro _; kernel_rfl) | kernel_rfl)
                  exact fin (some b) (keep (fun _ => ⟨b, rfl, y, y2, by omega⟩)) _ (by simp [Am.get, bI])
            · (try simp (config := { maxSteps := 10000000 }) only [go_sem, seval, xl, xs, as_len_y, iI, i0, f1, jz, j1, j2, j3, j4, j5, j6, eL, gX, hv', c0, c1, hqa, Int.toNat_natCast]; repeat (simp (disch := omega) only [w64_d, ipos, ineg, dpos, dneg]; try simp (config := { maxSteps := 10000000 }) only [go_sem, seval, xl, xs, as_len_y, iI, i0, f1, jz, j1, j2, j3, j4, j5, j6, eL, gX, hv', c0, c1, hqa, Int.toNat_natCast]))
              (repeat' first | apply And.intro | (intro _; kernel_rfl) | kernel_rfl)
              exact fin b (keep (fun ho => absurd (okq.1 ho) hqa)) _ (by simp [Am.get])
    · simp
    · intro x' A' he hA' _
      simp only [List.cons.injEq, AV.c.injEq, and_true] at he
      subst he
      rw [hA, Option.some.injEq] at hA'
      subst hA'
      exact ⟨rfl, rfl⟩
  obtain ⟨v, H1, h1, _, h2⟩ := this
  obtain ⟨rfl, rfl⟩ := h2 x A rfl hA hl
  exact h1
end
end
end Go.Proofs.Ythfccacopffkgaa
