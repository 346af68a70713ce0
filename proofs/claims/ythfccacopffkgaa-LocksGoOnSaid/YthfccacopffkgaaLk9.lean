/- Layer 12: who is stuck: the walk. -/
import Derived.Test.YthfccacopffkgaaLk8
namespace Go.Proofs.Ythfccacopffkgaa
open Go.Am
set_option linter.unusedSimpArgs false
set_option linter.unusedVariables false
noncomputable section
set_option maxRecDepth 100000

section
variable {H : AH} {D : Ld}
theorem arr_of (B : List Bool) (hB : B.length = 8) {k : Nat} (hk : k < 8) : k + 1 ≤ (B.map Sc.b).length ∧ (B.map Sc.b).getD k .any = .b (atB B k) := by
  refine ⟨by rw [List.length_map]; omega, ?_⟩
  unfold atB
  rw [List.getD_eq_getElem?_getD, List.getElem?_map, List.getD_eq_getElem?_getD, List.getElem?_eq_getElem (by omega)]; rfl
/-- a pass: how it stands in front of the k-th -/
structure Pas (S : LS) (B C : List Bool) (a : Bool) (k : Nat) : Prop where
  inn : Inn S C
  no : a = false → C = B ∧ ∀ j, j < k → atB B j = true → wtP S B (j : Int) = true
  yes : a = true → cntB C < cntB B
set_option maxHeartbeats 4000000 in
theorem s_lstk_ex (h : LI H D) : ∃ v H1, s_lstk [.c (.p D.p 0 0)] H = some (v, H1) ∧ H.length ≤ H1.length ∧ ∃ B, Gfp D.S B ∧ Own1 H H1 v (trB B) := by
  have : ∃ v H1, s_lstk [.c (.p D.p 0 0)] H = some (v, H1) ∧ H.length ≤ H1.length ∧ q_lstk [.c (.p D.p 0 0)] H v H1 := by
    obtain ⟨G, hG⟩ := gfp_ex D.S
    have lp := h.lt (show D.p ∈ D.ids by simp [Ld.ids])
    have gm : ∀ B : List Bool, (B.map Sc.b).all (Sc.bel (H.length + 2)) = true := fun B => by rw [List.all_map]; exact List.all_eq_true.2 fun _ _ => rfl
    have gm3 : ∀ B : List Bool, (B.map Sc.b).all (Sc.bel (H.length + 3)) = true := fun B => by rw [List.all_map]; exact List.all_eq_true.2 fun _ _ => rfl
    have one : ∀ B : List Bool, (B.map Sc.b).all Sc.one = true := fun B => by rw [List.all_map]; exact List.all_eq_true.2 fun _ _ => rfl
    unfold s_lstk
    apply frS_ex (v := .c (.sl (H.length + 2) 0 (trB G).length (trB G).length)) (H1 := H ++ [.own [.p D.p 0 0], .own (G.map Sc.b), .vec 1 ((trB G).flatMap encI)]) Try.func12 rfl Try.results12 Try.ntmps12 (by simp only [List.length_cons, List.length_nil]; decide)
    · intro ha hH
      have bH : ∀ B : List Bool, belH (H ++ [.own [.p D.p 0 0], .own (B.map Sc.b)]) = true := fun B => belH_app hH (by
        simp only [List.mem_cons, List.not_mem_nil, or_false, forall_eq_or_imp, forall_eq, AObj.scs, List.length_append, List.length_cons, List.length_nil]
        exact ⟨by simp [Sc.bel]; omega, gm B⟩)
      have bH3 : ∀ (B : List Bool) (L : List Int), belH (H ++ [.own [.p D.p 0 0], .own (B.map Sc.b), .vec 1 (L.flatMap encI)]) = true := fun B L => belH_app hH (by
        simp only [List.mem_cons, List.not_mem_nil, or_false, forall_eq_or_imp, forall_eq, AObj.scs, List.length_append, List.length_cons, List.length_nil]
        exact ⟨by simp [Sc.bel]; omega, gm3 B, by rw [encI_gI]; exact map_bel gI_num _ _⟩)
      have z0 : (inK D.S 0).map Sc.b = [.b false, .b false, .b false, .b false, .b false, .b false, .b false, .b false] := rfl
      (try simp (config := { maxSteps := 10000000 }) only [go_sem, seval]; repeat (simp (disch := omega) only [w64_d, ipos, ineg, dpos, dneg]; try simp (config := { maxSteps := 10000000 }) only [go_sem, seval]))
      refine arun_for 8 (fun k => ([(1, .c (.p H.length 0 0)), (3, .c (.p (H.length + 1) 0 0)), (13, .c (.i k))], H ++ [.own [.p D.p 0 0], .own ((inK D.S k).map Sc.b)])) ?_ fun k hk => ?_
      · rw [z0]
        exact Wk.wk (by simp [lo]) (by simp [Am.get]) (by simp [AV.bel, Sc.bel]) (subH_refl _) (bH (inK D.S 0))
      · by_cases hlt : k < 8
        rotate_left
        · obtain rfl : k = 8 := by omega
          (try simp (config := { maxSteps := 10000000 }) only [go_sem, seval]; repeat (simp (disch := omega) only [w64_d, ipos, ineg, dpos, dneg]; try simp (config := { maxSteps := 10000000 }) only [go_sem, seval]))
          rw [arun_loop]
          refine ⟨{x : Bool × List Bool // Inn D.S x.2 ∧ (x.1 = false → ∀ k, k < 8 → atB x.2 k = true → wtP D.S x.2 (k : Int) = true)}, fun x => ([(1, .c (.p H.length 0 0)), (3, .c (.p (H.length + 1) 0 0)), (5, .c (.f 36 [(H.length, 0, 0), (H.length + 1, 0, 0)])), (6, .c (.b x.1.1))], H ++ [.own [.p D.p 0 0], .own (x.1.2.map Sc.b)]),
            fun x => 2 * cntB x.1.2 + (if x.1.1 = true then 1 else 0), ⟨(true, inK D.S 8), Inn.start _, by simp⟩, ?_, ?_⟩
          · exact Wk.wk (by simp [lo]) (by simp [Am.get]) (by simp [AV.bel, Sc.bel]) (subH_refl _) (bH _)
          · rintro ⟨⟨again, B⟩, hB, hcl⟩
            simp only at hB hcl
            cases again with
            | false =>
              have hG2 : B = G := gfp_uniq ⟨hB.1, hcl rfl, hB.2⟩ hG
              subst hG2
              have lB : (B.map Sc.b).length = 8 := by rw [List.length_map, hB.1]
              have tB : (B.map Sc.b).take 8 = B.map Sc.b := List.take_of_length_le (by omega)
              (try simp (config := { maxSteps := 10000000 }) only [go_sem, seval, lB, tB]; repeat (simp (disch := omega) only [w64_d, ipos, ineg, dpos, dneg]; try simp (config := { maxSteps := 10000000 }) only [go_sem, seval, lB, tB]))
              refine arun_for 8 (fun k => ([(8, .c (.sl (H.length + 2) 0 (trN B k).length (trN B k).length)), (42, .g (B.map Sc.b)), (43, .c (.i k))], H ++ [.own [.p D.p 0 0], .own (B.map Sc.b), .vec 1 ((trN B k).flatMap encI)])) ?_ fun k hk => ?_
              · refine Wk.trans (Wk.nil 8 1 (by decide) rfl (by simp [lo])) (Wk.wk (by simp [lo]) (by simp [Am.get, trN]) (by simp [AV.bel, Sc.bel]) ?_ (bH3 _ _))
                rw [List.append_assoc]; exact subH_refl _
              · have wl := trN_len (B := B) k
                have eL : ((trN B k).flatMap encI).length = (trN B k).length := by rw [fm_len encI_l, Nat.mul_one]
                by_cases hlt : k < 8
                · have e0 : (k : Int) < 8 := by omega
                  have e4 : (0 : Int) ≤ k := by omega
                  have e1 : w64 ((k : Int) + 1) = ((k + 1 : Nat) : Int) := by rw [w64_d (by omega) (by omega)]; omega
                  have k5 : ((trN B k).length + 1) * 8 ≤ 1099511627776 := by omega
                  have sk : trN B (k + 1) = if atB B k = true then trN B k ++ [(k : Int)] else trN B k := rfl
                  obtain ⟨c0, c1⟩ := arr_of B hB.1 hlt
                  rw [lB] at c0
                  cases hb : atB B k with
                  | false =>
                    rw [hb] at c1 sk
                    rw [if_neg (by decide)] at sk
                    (try simp (config := { maxSteps := 10000000 }) only [go_sem, seval, e0, e1, e4, c0, c1, lB, Int.toNat_natCast]; repeat (simp (disch := omega) only [w64_d, ipos, ineg, dpos, dneg]; try simp (config := { maxSteps := 10000000 }) only [go_sem, seval, e0, e1, e4, c0, c1, lB, Int.toNat_natCast]))
                    refine ⟨k + 1, by omega, by omega, ?_⟩
                    rw [sk]
                    exact Wk.wk (by simp [lo]) (by simp [Am.get]) (by simp [AV.bel, Sc.bel, gm3]) (subH_refl _) (bH3 _ _)
                  | true =>
                    rw [hb] at c1 sk
                    rw [if_pos rfl] at sk
                    (try simp (config := { maxSteps := 10000000 }) only [go_sem, seval, e0, e1, e4, c0, c1, lB, k5, eL, Int.toNat_natCast]; repeat (simp (disch := omega) only [w64_d, ipos, ineg, dpos, dneg]; try simp (config := { maxSteps := 10000000 }) only [go_sem, seval, e0, e1, e4, c0, c1, lB, k5, eL, Int.toNat_natCast]))
                    refine ⟨k + 1, by omega, by omega, ?_⟩
                    rw [sk]
                    exact Wk.wk (by simp [lo]) (by simp [Am.get]) (by simp [AV.bel, Sc.bel, gm3]) (subH_pre _ ⟨.inr rfl, .inr rfl, .inr (by rw [fm_app]; rfl), trivial⟩) (bH3 _ _)
                · obtain rfl : k = 8 := by omega
                  (try simp (config := { maxSteps := 10000000 }) only [go_sem, seval]; repeat (simp (disch := omega) only [w64_d, ipos, ineg, dpos, dneg]; try simp (config := { maxSteps := 10000000 }) only [go_sem, seval]))
                  exact fin_same
            | true =>
              (try simp (config := { maxSteps := 10000000 }) only [go_sem, seval]; repeat (simp (disch := omega) only [w64_d, ipos, ineg, dpos, dneg]; try simp (config := { maxSteps := 10000000 }) only [go_sem, seval]))
              rw [arun_loop]
              refine ⟨{y : Nat × List Bool × Bool // y.1 ≤ 8 ∧ Pas D.S B y.2.1 y.2.2 y.1}, fun y => ([(1, .c (.p H.length 0 0)), (3, .c (.p (H.length + 1) 0 0)), (5, .c (.f 36 [(H.length, 0, 0), (H.length + 1, 0, 0)])), (6, .c (.b y.1.2.2)), (27, .c (.i y.1.1))], H ++ [.own [.p D.p 0 0], .own (y.1.2.1.map Sc.b)]),
                fun y => 8 - y.1.1, ⟨(0, B, false), by omega, hB, fun _ => ⟨rfl, fun j hj => absurd hj (Nat.not_lt_zero _)⟩, fun c => by simp at c⟩, ?_, ?_⟩
              · exact Wk.wk (by simp [lo]) (by simp [Am.get]) (by simp [AV.bel, Sc.bel]) (subH_refl _) (bH _)
              · rintro ⟨⟨k, C, a⟩, hk8, hP⟩
                simp only at hk8 hP
                by_cases hlt : k < 8
                rotate_left
                · obtain rfl : k = 8 := by omega
                  (try simp (config := { maxSteps := 10000000 }) only [go_sem, seval]; repeat (simp (disch := omega) only [w64_d, ipos, ineg, dpos, dneg]; try simp (config := { maxSteps := 10000000 }) only [go_sem, seval]))
                  cases a with
                  | false =>
                    obtain ⟨rfl, hq⟩ := hP.no rfl
                    exact ⟨⟨(false, C), hP.inn, fun _ => hq⟩, by simp, Wk.wk (by simp [lo]) (by simp [Am.get]) (by simp [AV.bel, Sc.bel]) (subH_refl _) (bH _)⟩
                  | true =>
                    have := hP.yes rfl
                    exact ⟨⟨(true, C), hP.inn, fun c => by simp at c⟩, by simp; omega, Wk.wk (by simp [lo]) (by simp [Am.get]) (by simp [AV.bel, Sc.bel]) (subH_refl _) (bH _)⟩
                · have e0 : (k : Int) < 8 := by omega
                  have e4 : (0 : Int) ≤ k := by omega
                  have e1 : w64 ((k : Int) + 1) = ((k + 1 : Nat) : Int) := by rw [w64_d (by omega) (by omega)]; omega
                  have hC := hP.inn.1
                  obtain ⟨c0, c1⟩ := arr_of C hC hlt
                  have lC : (C.map Sc.b).length = 8 := by rw [List.length_map, hC]
                  have o1 := one C
                  have st := s_lstk1_eq (h.app [.own [.p D.p 0 0], .own (C.map Sc.b)]) (B := C) (w := (k : Int)) (bx := H.length) (ar := H.length + 1) (by rw [hg_len]; rfl) (by rw [hg_len_add]; rfl) hC
                  have go : (C.getD k false = atB C k) := rfl
                  have keep : (atB C k = true → wtP D.S C (k : Int) = true) → Pas D.S B C a (k + 1) := fun hw => ⟨hP.inn, fun ha => by
                    obtain ⟨rfl, hq⟩ := hP.no ha
                    refine ⟨rfl, fun j hj hb => ?_⟩
                    rcases Nat.lt_succ_iff_lt_or_eq.1 hj with h' | rfl
                    · exact hq j h' hb
                    · exact hw hb, hP.yes⟩
                  cases hb : atB C k with
                  | false =>
                    rw [hb] at c1
                    (try simp (config := { maxSteps := 10000000 }) only [go_sem, seval, e0, e1, e4, c0, c1, lC, Int.toNat_natCast]; repeat (simp (disch := omega) only [w64_d, ipos, ineg, dpos, dneg]; try simp (config := { maxSteps := 10000000 }) only [go_sem, seval, e0, e1, e4, c0, c1, lC, Int.toNat_natCast]))
                    exact ⟨⟨(k + 1, C, a), by omega, keep (by rw [hb]; simp)⟩, by simp only; omega, Wk.wk (by simp [lo]) (by simp [Am.get]) (by simp [AV.bel, Sc.bel]) (subH_refl _) (bH _)⟩
                  | true =>
                    rw [hb] at c1
                    cases hw : wtP D.S C (k : Int) with
                    | true =>
                      rw [hw] at st
                      (try simp (config := { maxSteps := 10000000 }) only [go_sem, seval, e0, e1, e4, c0, c1, lC, st, Int.toNat_natCast]; repeat (simp (disch := omega) only [w64_d, ipos, ineg, dpos, dneg]; try simp (config := { maxSteps := 10000000 }) only [go_sem, seval, e0, e1, e4, c0, c1, lC, st, Int.toNat_natCast]))
                      exact ⟨⟨(k + 1, C, a), by omega, keep (fun _ => hw)⟩, by simp only; omega, Wk.wk (by simp [lo]) (by simp [Am.get]) (by simp [AV.bel, Sc.bel]) (subH_refl _) (bH _)⟩
                    | false =>
                      rw [hw] at st
                      have r1 : wr (C.map Sc.b) k [.b false] = (C.set k false).map Sc.b := wr_map (g := Sc.b) (by omega)
                      (try simp (config := { maxSteps := 10000000 }) only [go_sem, seval, e0, e1, e4, c0, c1, lC, st, r1, Int.toNat_natCast]; repeat (simp (disch := omega) only [w64_d, ipos, ineg, dpos, dneg]; try simp (config := { maxSteps := 10000000 }) only [go_sem, seval, e0, e1, e4, c0, c1, lC, st, r1, Int.toNat_natCast]))
                      refine ⟨⟨(k + 1, C.set k false, true), by omega, hP.inn.set hlt hw, fun c => by simp at c, fun _ => ?_⟩, by simp only; omega, Wk.wk (by simp [lo]) (by simp [Am.get]) (by simp [AV.bel, Sc.bel]) (subH_refl _) (bH _)⟩
                      have l1 := cnt_set hb hC
                      cases a with
                      | false => obtain ⟨rfl, _⟩ := hP.no rfl; exact l1
                      | true => have := hP.yes rfl; simp only; omega
        · have e0 : (k : Int) < 8 := by omega
          have e4 : (0 : Int) ≤ k := by omega
          have e1 : w64 ((k : Int) + 1) = ((k + 1 : Nat) : Int) := by rw [w64_d (by omega) (by omega)]; omega
          have wq := fun X => s_lwaits_eq (h.app X) (w := (k : Int))
          rw [waV_t] at wq
          have r1 := inK_set (S := D.S) hlt
          have lB : ((inK D.S k).map Sc.b).length = 8 := by rw [List.length_map, inK_len]
          have k1 : k + 1 ≤ 8 := by omega
          (try simp (config := { maxSteps := 10000000 }) only [go_sem, seval, e0, e1, e4, wq, r1, lB, k1, Int.toNat_natCast]; repeat (simp (disch := omega) only [w64_d, ipos, ineg, dpos, dneg]; try simp (config := { maxSteps := 10000000 }) only [go_sem, seval, e0, e1, e4, wq, r1, lB, k1, Int.toNat_natCast]))
          exact ⟨k + 1, by omega, by omega, Wk.wk (by simp [lo]) (by simp [Am.get]) (by simp [AV.bel, Sc.bel]) (subH_refl _) (bH _)⟩
    · simp
    · refine ⟨fun he => by simp at he, fun E he hE => ?_⟩
      simp only [List.cons.injEq, AV.c.injEq, Sc.p.injEq, and_true] at he
      rw [← h.uniq hE he]
      exact ⟨G, hG, ⟨_, rfl, .inr ⟨_, rfl, by rw [hg_len_add]; rfl⟩, fun i hi => by simp only [sidI, Option.some.injEq] at hi; omega⟩, fun i hi => hg_lt' hi⟩
  obtain ⟨v, H1, h1, hlen, h2⟩ := this
  exact ⟨v, H1, h1, hlen, h2.2 D rfl h⟩
end
end
end Go.Proofs.Ythfccacopffkgaa
