/- Layer 12: who is stuck, as the document says: the walks. -/
import Derived.Test.YthfccacopffkgaaLkJ
namespace Go.Proofs.Ythfccacopffkgaa
open Go.Am
set_option linter.unusedSimpArgs false
set_option linter.unusedVariables false
noncomputable section
set_option maxRecDepth 100000

section
variable {H : AH}
def anyN {α : Type} (f : α → Bool) (S : List α) : Nat → Bool
  | 0 => false
  | k + 1 => anyN f S k || (match S[k]? with | some y => f y | none => false)
theorem anyN_take {α : Type} {f : α → Bool} {S : List α} : ∀ {k : Nat}, k ≤ S.length → anyN f S k = (S.take k).any f
  | 0, _ => by simp [anyN]
  | k + 1, h => by
    have e : S[k]? = some S[k] := List.getElem?_eq_getElem (by omega)
    rw [anyN, anyN_take (by omega), List.take_succ_eq_append_getElem (by omega), List.any_append, e]
    simp
theorem anyN_all {α : Type} {f : α → Bool} {S : List α} : anyN f S S.length = S.any f := by rw [anyN_take (Nat.le_refl _), List.take_length]
def clF (W : List Int) (w : Int) (y : Int × List Int) : Bool := decide (w ∈ y.2) && decide (y.1 ∈ W)
def q_rlcl (args : List AV) (H : AH) (v : AV) : Prop := ∀ id Y z W, args = [xV id Y, .c z] → XI H id Y → OkQ (lyS Y) → Y.length ≤ 1000 → slP dcI H z = some W → W.length ≤ 1000 → v = .c (.b (clS (lyS Y) W))
def s_rlcl : List AV → AH → Option AV := frQ Try.prog [(40, .fq s_rlin)] 43 q_rlcl
set_option maxRecDepth 100000 in
set_option maxHeartbeats 2000000 in
theorem ok_rlcl : FpOk Try.prog 43 (fun args H => (s_rlcl args H).map fun v => (v, H)) := frQ_ok hmix (TabOk.cons (e := .fq s_rlin) ok_rlin TabOk.nil) Try.func43 rfl Try.results43 Try.ntmps43 (by kernel_rfl) (by kernel_rfl)
theorem slP_uniq {x : Sc} {A B : List Int} (h : slP dcI H x = some A) (h' : slP dcI H x = some B) : A = B := by rw [h] at h'; simpa using h'
theorem s_rlcl_eq {id : Nat} {Y : List Ly} {z : Sc} {W : List Int} (h : XI H id Y) (hQ : OkQ (lyS Y)) (hY : Y.length ≤ 1000) (hz : slP dcI H z = some W) (hW : W.length ≤ 1000) : s_rlcl [xV id Y, .c z] H = some (.c (.b (clS (lyS Y) W))) := by
  have : ∃ v, s_rlcl [xV id Y, .c z] H = some v ∧ q_rlcl [xV id Y, .c z] H v := by
    have ho := h.o
    have hr := ly_row h
    rw [h.o] at hr
    simp only [AObj.row] at hr
    have xl := slP_len hz
    have xs := slP_isS hz
    unfold xV
    unfold s_rlcl
    apply frQ_ex (v := .c (.b (clS (lyS Y) W))) Try.func43 rfl Try.results43 Try.ntmps43 (by simp only [List.length_cons, List.length_nil]; decide)
    · exact fun _ _ => rfl
    · intro ha hH
      (try simp (config := { maxSteps := 10000000 }) only [go_sem, seval]; repeat (simp (disch := omega) only [w64_d, ipos, ineg, dpos, dneg]; try simp (config := { maxSteps := 10000000 }) only [go_sem, seval]))
      rw [arun_loop]
      refine ⟨{i : Nat // i ≤ W.length ∧ ∀ j, j < i → ∀ w, W[j]? = some w → (lyS Y).any (clF W w) = true}, fun i => ([(0, .c (.sl id 0 (2 * Y.length) Y.length)), (1, .c z), (5, .c (.i i.1))], H), fun i => W.length - i.1, ⟨0, by omega, fun j hj => absurd hj (Nat.not_lt_zero _)⟩, wkFL (by simp [Am.get]), ?_⟩
      rintro ⟨i, hi, hj⟩
      have i0 : (0 : Int) ≤ (i : Int) := by omega
      by_cases hlt : i < W.length
      rotate_left
      · obtain rfl : i = W.length := by omega
        have e : clS (lyS Y) W = true := by
          unfold clS
          rw [List.all_eq_true]
          intro w hw
          obtain ⟨j, hjl, rfl⟩ := List.mem_iff_getElem.1 hw
          exact hj j hjl _ (List.getElem?_eq_getElem hjl)
        rw [e]
        (try simp (config := { maxSteps := 10000000 }) only [go_sem, seval, xl, xs, as_len_y]; repeat (simp (disch := omega) only [w64_d, ipos, ineg, dpos, dneg]; try simp (config := { maxSteps := 10000000 }) only [go_sem, seval, xl, xs, as_len_y]))
        exact subH_refl _
      have iI : (i : Int) < W.length := by omega
      obtain ⟨w, hw⟩ : ∃ w, W[i]? = some w := ⟨_, List.getElem?_eq_getElem hlt⟩
      have e1 : w64 ((i : Int) + 1) = ((i + 1 : Nat) : Int) := by rw [w64_d (by omega) (by omega)]; omega
      rcases slP_inv gI_d hz with ⟨rfl, rfl⟩ | ⟨zi, zv, rfl, zv1, zl, zc⟩
      · simp at hlt
      have zv2 := zv1.symm
      have z1 := slP_get zc hw
      have z2 : i + 1 ≤ (hg H zi).cells.length := by omega
      (try simp (config := { maxSteps := 10000000 }) only [go_sem, seval, xl, xs, as_len_y, iI, i0]; repeat (simp (disch := omega) only [w64_d, ipos, ineg, dpos, dneg]; try simp (config := { maxSteps := 10000000 }) only [go_sem, seval, xl, xs, as_len_y, iI, i0]))
      refine arun_for Y.length (fun k => ([(0, .c (.sl id 0 (2 * Y.length) Y.length)), (1, .c (.sl zi 0 zv W.length)), (5, .c (.i i)), (6, .c (.b (anyN (clF W w) (lyS Y) k))), (7, .c (.i k))], H)) (wkFL (by simp [Am.get, anyN])) fun k hk => ?_
      by_cases hkl : k < Y.length
      rotate_left
      · obtain rfl : k = Y.length := by omega
        have ea : anyN (clF W w) (lyS Y) Y.length = (lyS Y).any (clF W w) := by rw [← anyN_all, lyS_len]
        cases hf : (lyS Y).any (clF W w) with
        | false =>
          rw [hf] at ea
          have e : clS (lyS Y) W = false := by
            unfold clS
            rw [List.all_eq_false]
            exact ⟨w, List.mem_of_getElem? hw, by rw [show (lyS Y).any (fun y => decide (w ∈ y.2) && decide (y.1 ∈ W)) = (lyS Y).any (clF W w) from rfl, hf]; simp⟩
          rw [e]
          (try simp (config := { maxSteps := 10000000 }) only [go_sem, seval, ea]; repeat (simp (disch := omega) only [w64_d, ipos, ineg, dpos, dneg]; try simp (config := { maxSteps := 10000000 }) only [go_sem, seval, ea]))
          exact subH_refl _
        | true =>
          rw [hf] at ea
          (try simp (config := { maxSteps := 10000000 }) only [go_sem, seval, ea, e1]; repeat (simp (disch := omega) only [w64_d, ipos, ineg, dpos, dneg]; try simp (config := { maxSteps := 10000000 }) only [go_sem, seval, ea, e1]))
          exact ⟨⟨i + 1, by omega, fun j hj' u hu => by
            rcases Nat.lt_succ_iff_lt_or_eq.1 hj' with h' | rfl
            · exact hj j h' u hu
            · rw [hw] at hu; simp only [Option.some.injEq] at hu; rw [← hu]; exact hf⟩, by simp only; omega, wkFL (by simp [Am.get])⟩
      · have k0 : (0 : Int) ≤ (k : Int) := by omega
        have kI : (k : Int) < Y.length := by omega
        obtain ⟨y, hy⟩ : ∃ y, Y[k]? = some y := ⟨_, List.getElem?_eq_getElem hkl⟩
        have hym := List.mem_of_getElem? hy
        obtain ⟨c0, c1, cl⟩ := ly_cell hy
        have k1 : k * 2 + 1 ≤ (Y.flatMap lyC).length := by omega
        have k2 : k * 2 + 1 + 1 ≤ (Y.flatMap lyC).length := by omega
        have f1 : w64 ((k : Int) + 1) = ((k + 1 : Nat) : Int) := by rw [w64_d (by omega) (by omega)]; omega
        have ql : y.q.length ≤ 100000 := hQ _ (lyS_mem hym)
        have n1 := s_rlin_of (k := w) (isx_sp (h.q y hym)) (by omega)
        have n2 := s_rlin_of (k := y.h) hz (by omega)
        have asn : anyN (clF W w) (lyS Y) (k + 1) = (anyN (clF W w) (lyS Y) k || clF W w (y.h, y.q)) := by
          rw [anyN]
          have : (lyS Y)[k]? = some (y.h, y.q) := by unfold lyS; rw [List.getElem?_map, hy]; rfl
          rw [this]
        have fin : ∀ q : Bool, anyN (clF W w) (lyS Y) (k + 1) = q → ∀ fr' : Fr, (∀ p ∈ [(0, AV.c (.sl id 0 (2 * Y.length) Y.length)), (1, .c (.sl zi 0 zv W.length)), (5, .c (.i i)), (6, .c (.b q)), (7, .c (.i ((k + 1 : Nat) : Int)))], Am.get fr' p.1 = p.2) → ∃ j, k < j ∧ j ≤ Y.length ∧ Wk (lo [(1000000, Ent.lo H.length), (40, .fq s_rlin)]) fr' H ([(0, .c (.sl id 0 (2 * Y.length) Y.length)), (1, .c (.sl zi 0 zv W.length)), (5, .c (.i i)), (6, .c (.b (anyN (clF W w) (lyS Y) j))), (7, .c (.i j))], H) := fun q hq fr' hf =>
          ⟨k + 1, by omega, by omega, wkFL (by rw [hq]; exact hf)⟩
        cases ha : anyN (clF W w) (lyS Y) k with
        | true =>
          rw [ha, Bool.true_or] at asn
          (try simp (config := { maxSteps := 10000000 }) only [go_sem, seval, ha, kI, k0, f1]; repeat (simp (disch := omega) only [w64_d, ipos, ineg, dpos, dneg]; try simp (config := { maxSteps := 10000000 }) only [go_sem, seval, ha, kI, k0, f1]))
          (repeat' first | apply And.intro | (intro _; kernel_rfl) | kernel_rfl)
          exact fin true asn _ (by simp [Am.get])
        | false =>
          rw [ha, Bool.false_or] at asn
          by_cases m1 : w ∈ y.q
          · rw [decide_eq_true m1] at n1
            have as2 : anyN (clF W w) (lyS Y) (k + 1) = decide (y.h ∈ W) := by rw [asn]; unfold clF; rw [decide_eq_true (show w ∈ (y.h, y.q).2 from m1), Bool.true_and]
            (try simp (config := { maxSteps := 10000000 }) only [go_sem, seval, ha, kI, k0, f1, ho, hr, c0, c1, k1, k2, zv2, z1, z2, gI, n1, n2, iI, i0, Int.toNat_natCast]; repeat (simp (disch := omega) only [w64_d, ipos, ineg, dpos, dneg]; try simp (config := { maxSteps := 10000000 }) only [go_sem, seval, ha, kI, k0, f1, ho, hr, c0, c1, k1, k2, zv2, z1, z2, gI, n1, n2, iI, i0, Int.toNat_natCast]))
            (repeat' first | apply And.intro | (intro _; kernel_rfl) | kernel_rfl)
            exact fin _ as2 _ (by simp [Am.get])
          · rw [decide_eq_false m1] at n1
            have as2 : anyN (clF W w) (lyS Y) (k + 1) = false := by rw [asn]; unfold clF; rw [decide_eq_false (show ¬ w ∈ (y.h, y.q).2 from m1), Bool.false_and]
            (try simp (config := { maxSteps := 10000000 }) only [go_sem, seval, ha, kI, k0, f1, ho, hr, c0, c1, k1, k2, zv2, z1, z2, gI, n1, n2, iI, i0, Int.toNat_natCast]; repeat (simp (disch := omega) only [w64_d, ipos, ineg, dpos, dneg]; try simp (config := { maxSteps := 10000000 }) only [go_sem, seval, ha, kI, k0, f1, ho, hr, c0, c1, k1, k2, zv2, z1, z2, gI, n1, n2, iI, i0, Int.toNat_natCast]))
            (repeat' first | apply And.intro | (intro _; kernel_rfl) | kernel_rfl)
            exact fin _ as2 _ (by simp [Am.get])
    · intro id' Z z' W' he hZ _ _ hz' _
      simp only [xV, List.cons.injEq, AV.c.injEq, Sc.sl.injEq, and_true] at he
      obtain ⟨⟨rfl, _⟩, rfl⟩ := he
      rw [h.uniq hZ, slP_uniq hz hz']
  obtain ⟨v, h1, h2⟩ := this
  rw [h1, h2 id Y z W rfl h hQ hY hz hW]
def q_rlstk (args : List AV) (H : AH) (v : AV) (H1 : AH) : Prop := ∀ id Y, args = [xV id Y] → XI H id Y → OkQ (lyS Y) → Y.length ≤ 1000 → v = .c (.sl H.length 0 (bsF (lyS Y) 255).length (bsF (lyS Y) 255).length) ∧ H1 = H ++ [.vec 1 ((bsF (lyS Y) 255).flatMap encI)]
def s_rlstk : List AV → AH → Option (AV × AH) := frS Try.prog [(43, .fq s_rlcl)] 22 q_rlstk
set_option maxRecDepth 100000 in
set_option maxHeartbeats 2000000 in
theorem ok_rlstk : FpOk Try.prog 22 s_rlstk := frS_ok hmix (TabOk.cons (e := .fq s_rlcl) ok_rlcl TabOk.nil) Try.func22 rfl Try.results22 Try.ntmps22 (by kernel_rfl) (by kernel_rfl)
theorem bsF_len {S : LS} : ∀ j, (bsF S j).length ≤ 8
  | 0 => by simp [bsF]
  | j + 1 => by
    unfold bsF
    split
    · exact trN_len 8
    · exact bsF_len j
theorem s_rlstk_eq {id : Nat} {Y : List Ly} (h : XI H id Y) (hQ : OkQ (lyS Y)) (hY : Y.length ≤ 1000) : s_rlstk [xV id Y] H = some (.c (.sl H.length 0 (bsF (lyS Y) 255).length (bsF (lyS Y) 255).length), H ++ [.vec 1 ((bsF (lyS Y) 255).flatMap encI)]) := by
  have : ∃ v H1, s_rlstk [xV id Y] H = some (v, H1) ∧ H.length ≤ H1.length ∧ q_rlstk [xV id Y] H v H1 := by
    have lid := h.lt
    unfold s_rlstk
    apply frS_ex (v := .c (.sl H.length 0 (bsF (lyS Y) 255).length (bsF (lyS Y) 255).length)) (H1 := H ++ [.vec 1 ((bsF (lyS Y) 255).flatMap encI)]) Try.func22 rfl Try.results22 Try.ntmps22 (by simp only [List.length_cons, List.length_nil]; decide)
    · intro ha hH
      have bb : ∀ L : List Int, belH (H ++ [.vec 1 (L.flatMap encI)]) = true := fun L => belH_app hH (by simp only [List.mem_cons, List.not_mem_nil, or_false, forall_eq]; rw [encI_gI]; exact map_bel gI_num _ _)
      have bb2 : ∀ L M : List Int, belH (H ++ [.vec 1 (L.flatMap encI), .vec 1 (M.flatMap encI)]) = true := fun L M => belH_app hH (by
        simp only [List.mem_cons, List.not_mem_nil, or_false, forall_eq_or_imp, forall_eq]; rw [encI_gI, encI_gI]; exact ⟨map_bel gI_num _ _, map_bel gI_num _ _⟩)
      unfold xV
      (try simp (config := { maxSteps := 10000000 }) only [go_sem, seval]; repeat (simp (disch := omega) only [w64_d, ipos, ineg, dpos, dneg]; try simp (config := { maxSteps := 10000000 }) only [go_sem, seval]))
      refine arun_for 255 (fun j => ([(0, .c (.sl id 0 (2 * Y.length) Y.length)), (3, .c (.sl H.length 0 (bsF (lyS Y) j).length (bsF (lyS Y) j).length)), (4, .c (.i (255 - (j : Int))))], H ++ [.vec 1 ((bsF (lyS Y) j).flatMap encI)])) ?_ fun j hj => ?_
      · refine Wk.trans (Wk.nil 3 1 (by decide) rfl (by simp [lo])) (Wk.wk (by simp [lo]) (by simp [Am.get, bsF]) (by simp [AV.bel, Sc.bel]; omega) ?_ (bb _))
        exact subH_refl _
      · by_cases hlt : j < 255
        rotate_left
        · obtain rfl : j = 255 := by omega
          (try simp (config := { maxSteps := 10000000 }) only [go_sem, seval]; repeat (simp (disch := omega) only [w64_d, ipos, ineg, dpos, dneg]; try simp (config := { maxSteps := 10000000 }) only [go_sem, seval]))
          exact fin_same
        have j0 : (0 : Int) < 255 - (j : Int) := by omega
        (try simp (config := { maxSteps := 10000000 }) only [go_sem, seval, j0]; repeat (simp (disch := omega) only [w64_d, ipos, ineg, dpos, dneg]; try simp (config := { maxSteps := 10000000 }) only [go_sem, seval, j0]))
        refine arun_for 8 (fun k => ([(0, .c (.sl id 0 (2 * Y.length) Y.length)), (3, .c (.sl H.length 0 (bsF (lyS Y) j).length (bsF (lyS Y) j).length)), (4, .c (.i (255 - (j : Int)))), (5, .c (.sl (H.length + 1) 0 (trN (bitsB (255 - j)) k).length (trN (bitsB (255 - j)) k).length)), (6, .c (.i k)), (7, .c (.i (((255 - j) / 2 ^ k : Nat) : Int)))],
          H ++ [.vec 1 ((bsF (lyS Y) j).flatMap encI), .vec 1 ((trN (bitsB (255 - j)) k).flatMap encI)])) ?_ fun k hk => ?_
        · have e255 : (255 : Int) - (j : Int) = ((255 - j : Nat) : Int) := by omega
          refine Wk.trans (Wk.nil 5 1 (by decide) rfl (by simp [lo])) (Wk.wk (by simp [lo]) (by simp [Am.get, trN, e255]) (by simp [AV.bel, Sc.bel]; omega) ?_ (bb2 _ _))
          rw [List.append_assoc]; exact subH_refl _
        · have wl := trN_len (B := bitsB (255 - j)) k
          have eL : ((trN (bitsB (255 - j)) k).flatMap encI).length = (trN (bitsB (255 - j)) k).length := by rw [fm_len encI_l, Nat.mul_one]
          by_cases hkl : k < 8
          · have k0 : (k : Int) < 8 := by omega
            have f1 : w64 ((k : Int) + 1) = ((k + 1 : Nat) : Int) := by rw [w64_d (by omega) (by omega)]; omega
            have ks : trN (bitsB (255 - j)) (k + 1) = if atB (bitsB (255 - j)) k = true then trN (bitsB (255 - j)) k ++ [(k : Int)] else trN (bitsB (255 - j)) k := rfl
            rw [bits_at hkl, Nat.testBit_eq_decide_div_mod_eq] at ks
            have hs : (255 - j) / 2 ^ (k + 1) = (255 - j) / 2 ^ k / 2 := by rw [Nat.pow_succ, Nat.div_div_eq_div_mul]
            have hm : (255 - j) / 2 ^ k ≤ 255 := Nat.le_trans (Nat.div_le_self _ _) (by omega)
            generalize hq : (255 - j) / 2 ^ k = m at *
            have e2 : ((m : Int)).tmod 2 = ((m % 2 : Nat) : Int) := by rw [Int.tmod_eq_emod_of_nonneg (by omega)]; omega
            have e3 : w64 (((m : Int)).tdiv 2) = ((m / 2 : Nat) : Int) := by rw [Int.tdiv_eq_ediv_of_nonneg (by omega), w64_d (by omega) (by omega)]; omega
            have k5 : ((trN (bitsB (255 - j)) k).length + 1) * 8 ≤ 1099511627776 := by omega
            by_cases hb : m % 2 = 1
            · rw [if_pos (by simp [hb])] at ks
              have e4 : ((m % 2 : Nat) : Int) = 1 := by omega
              (try simp (config := { maxSteps := 10000000 }) only [go_sem, seval, k0, f1, e2, e3, e4, k5, eL]; repeat (simp (disch := omega) only [w64_d, ipos, ineg, dpos, dneg]; try simp (config := { maxSteps := 10000000 }) only [go_sem, seval, k0, f1, e2, e3, e4, k5, eL]))
              refine ⟨k + 1, by omega, by omega, ?_⟩
              rw [ks, hs]
              exact Wk.wk (by simp [lo]) (by simp [Am.get]) (by simp [AV.bel, Sc.bel]; omega) (subH_pre _ ⟨.inr rfl, .inr (by rw [fm_app]; rfl), trivial⟩) (bb2 _ _)
            · rw [if_neg (by simp [hb])] at ks
              have e4 : ¬ (((m % 2 : Nat) : Int) = 1) := by omega
              (try simp (config := { maxSteps := 10000000 }) only [go_sem, seval, k0, f1, e2, e3, e4]; repeat (simp (disch := omega) only [w64_d, ipos, ineg, dpos, dneg]; try simp (config := { maxSteps := 10000000 }) only [go_sem, seval, k0, f1, e2, e3, e4]))
              refine ⟨k + 1, by omega, by omega, ?_⟩
              rw [ks, hs]
              exact wkFL (by simp [Am.get])
          · obtain rfl : k = 8 := by omega
            have hX := h.app [.vec 1 ((bsF (lyS Y) j).flatMap encI), .vec 1 ((trN (bitsB (255 - j)) 8).flatMap encI)]
            have hz : slP dcI (H ++ [.vec 1 ((bsF (lyS Y) j).flatMap encI), .vec 1 ((trN (bitsB (255 - j)) 8).flatMap encI)]) (.sl (H.length + 1) 0 (trN (bitsB (255 - j)) 8).length (trN (bitsB (255 - j)) 8).length) = some (trN (bitsB (255 - j)) 8) := isx_sp (.inr ⟨_, rfl, by rw [hg_len_add]; rfl⟩)
            have cl := s_rlcl_eq hX hQ hY hz (by omega)
            unfold xV at cl
            have e1 : w64 (255 - (j : Int) - 1) = 255 - ((j + 1 : Nat) : Int) := by rw [w64_d (by omega) (by omega)]; omega
            have bs : bsF (lyS Y) (j + 1) = if (bsF (lyS Y) j).length < (trB (bitsB (255 - j))).length ∧ clS (lyS Y) (trB (bitsB (255 - j))) = true then trB (bitsB (255 - j)) else bsF (lyS Y) j := rfl
            unfold trB at bs
            by_cases h1 : (bsF (lyS Y) j).length < (trN (bitsB (255 - j)) 8).length
            · have h1' : (((bsF (lyS Y) j).length : Nat) : Int) < (((trN (bitsB (255 - j)) 8).length : Nat) : Int) := by omega
              cases hc : clS (lyS Y) (trN (bitsB (255 - j)) 8) with
              | true =>
                rw [hc] at cl
                rw [if_pos ⟨h1, hc⟩] at bs
                (try simp (config := { maxSteps := 10000000 }) only [go_sem, seval, h1', cl, e1]; repeat (simp (disch := omega) only [w64_d, ipos, ineg, dpos, dneg]; try simp (config := { maxSteps := 10000000 }) only [go_sem, seval, h1', cl, e1]))
                refine ⟨j + 1, by omega, by omega, ?_⟩
                rw [bs]
                refine Wk.tail1 1 (by simp [lo]) hH rfl (by rw [encI_gI]; exact map_bel gI_num _ _) ?_ (by simp [AV.bel, Sc.bel]; omega)
                have t0 : tabR H.length [1] id = id := tabR_lt lid
                simp [Am.get, AV.ren, Sc.ren, t0, tabR_0]
              | false =>
                rw [hc] at cl
                rw [if_neg (fun c => by rw [hc] at c; simp at c)] at bs
                (try simp (config := { maxSteps := 10000000 }) only [go_sem, seval, h1', cl, e1]; repeat (simp (disch := omega) only [w64_d, ipos, ineg, dpos, dneg]; try simp (config := { maxSteps := 10000000 }) only [go_sem, seval, h1', cl, e1]))
                refine ⟨j + 1, by omega, by omega, ?_⟩
                rw [bs]
                exact Wk.wk (by simp [lo]) (by simp [Am.get]) (by simp [AV.bel, Sc.bel]; omega) (subH_pre _ ⟨.inr rfl, trivial⟩) (bb _)
            · have h1' : ¬ ((((bsF (lyS Y) j).length : Nat) : Int) < (((trN (bitsB (255 - j)) 8).length : Nat) : Int)) := by omega
              rw [if_neg (fun c => h1 c.1)] at bs
              (try simp (config := { maxSteps := 10000000 }) only [go_sem, seval, h1', e1]; repeat (simp (disch := omega) only [w64_d, ipos, ineg, dpos, dneg]; try simp (config := { maxSteps := 10000000 }) only [go_sem, seval, h1', e1]))
              refine ⟨j + 1, by omega, by omega, ?_⟩
              rw [bs]
              exact Wk.wk (by simp [lo]) (by simp [Am.get]) (by simp [AV.bel, Sc.bel]; omega) (subH_pre _ ⟨.inr rfl, trivial⟩) (bb _)
    · simp
    · intro id' Z he hZ _ _
      simp only [xV, List.cons.injEq, AV.c.injEq, Sc.sl.injEq, and_true] at he
      obtain ⟨rfl, _⟩ := he
      rw [h.uniq hZ]
      exact ⟨rfl, rfl⟩
  obtain ⟨v, H1, h1, _, h2⟩ := this
  obtain ⟨rfl, rfl⟩ := h2 id Y rfl h hQ hY
  exact h1
end
end
end Go.Proofs.Ythfccacopffkgaa
