/- Layer 12: the document's locks, taken and given back: contracts. -/
import Derived.Test.YthfccacopffkgaaLkF
namespace Go.Proofs.Ythfccacopffkgaa
open Go.Am
set_option linter.unusedSimpArgs false
set_option linter.unusedVariables false
noncomputable section
set_option maxRecDepth 100000

section
variable {H : AH}
theorem set_sameD {l : List Sc} {k : Nat} {x : Sc} (hk : k < l.length) (h : l.getD k .any = x) : l.set k x = l := by
  rw [List.getD_eq_getElem?_getD, List.getElem?_eq_getElem hk] at h
  simp only [Option.getD_some] at h
  rw [← h]; exact List.set_getElem_self hk
/-- a lock is told anew -/
theorem XI.repl {K : AH} {id : Nat} {Y : List Ly} {k : Nat} {y z : Ly} (h : XI H id Y) (hy : Y[k]? = some y) (hlen : H.length ≤ K.length) (hold : ∀ i, i < H.length → i ≠ id → hg K i = hg H i)
    (ho : hg K id = .vec 2 (((Y.flatMap lyC).set (k * 2) (.i z.h)).set (k * 2 + 1) z.x)) (hq : isx K z.x z.q) (hs : ∀ i, sidI z.x = some i → sidI y.x = some i ∨ H.length ≤ i) :
    XI K id (Y.set k z) ∧ XKp H K id Y (Y.set k z) ∧ lyS (Y.set k z) = (lyS Y).set k (z.h, z.q) := by
  have hk : k < Y.length := by
    rcases Nat.lt_or_ge k Y.length with h' | h'
    · exact h'
    · rw [List.getElem?_eq_none h'] at hy; simp at hy
  have hym := List.mem_of_getElem? hy
  refine ⟨⟨by rw [ho, ly_set hk], fun x hx => ?_⟩, ⟨hlen, by simp, hold, fun x hx i hi => ?_⟩, ?_⟩
  · rcases List.mem_or_eq_of_mem_set hx with g | rfl
    · refine isx_frame (h.q x g) fun i hi => hold i (isx_lt (h.q x g) hi).1 (h.ne g hi)
    · exact hq
  · rcases List.mem_or_eq_of_mem_set hx with g | rfl
    · exact .inl ⟨x, g, hi⟩
    · rcases hs i hi with g | g
      · exact .inl ⟨y, hym, g⟩
      · exact .inr g
  · unfold lyS; rw [List.map_set]
theorem XKp.refl {id : Nat} {Y : List Ly} : XKp H H id Y Y := ⟨Nat.le_refl _, rfl, fun _ _ _ => rfl, fun z hz i hi => .inl ⟨z, hz, hi⟩⟩
theorem XKp.trans {K J : AH} {id : Nat} {X Y Z : List Ly} (h : XKp H K id X Y) (h' : XKp K J id Y Z) : XKp H J id X Z :=
  ⟨Nat.le_trans h.len h'.len, h'.n.trans h.n, fun i hi hn => by rw [h'.old i (Nat.lt_of_lt_of_le hi h.len) hn, h.old i hi hn], fun z hz i hi => by
    rcases h'.ids z hz i hi with ⟨y, hy, g⟩ | g
    · exact h.ids y hy i g
    · exact .inr (Nat.le_trans h.len g)⟩
/-- locks that are free have no queue -/
def OkS (S : LS) : Prop := ∀ y ∈ S, y.1 < 0 → y = (-1, [])
def OkQ (S : LS) : Prop := ∀ y ∈ S, y.2.length ≤ 100000
theorem lyS_mem {Y : List Ly} {y : Ly} (h : y ∈ Y) : (y.h, y.q) ∈ lyS Y := List.mem_map.2 ⟨y, h, rfl⟩
def XStep (H H1 : AH) (id : Nat) (Y : List Ly) (S : LS) : Prop := ∃ Z, XI H1 id Z ∧ XKp H H1 id Y Z ∧ lyS Z = S
def q_rltake (args : List AV) (H : AH) (v : AV) (H1 : AH) : Prop := ∀ id Y w a, args = [xV id Y, .c (.i w), .c (.i a)] → XI H id Y → OkS (lyS Y) → OkQ (lyS Y) → v = .c (.b (tkB (lyS Y) w a)) ∧ XStep H H1 id Y (tkS (lyS Y) w a)
def s_rltake : List AV → AH → Option (AV × AH) := frS Try.prog [(39, .fq s_rlright), (40, .fq s_rlin)] 19 q_rltake
set_option maxRecDepth 100000 in
set_option maxHeartbeats 2000000 in
theorem ok_rltake : FpOk Try.prog 19 s_rltake := frS_ok hmix (TabOk.cons (e := .fq s_rlright) ok_rlright (TabOk.cons (e := .fq s_rlin) ok_rlin TabOk.nil)) Try.func19 rfl Try.results19 Try.ntmps19 (by kernel_rfl) (by kernel_rfl)
theorem s_rltake_ex {id : Nat} {Y : List Ly} (h : XI H id Y) (hS : OkS (lyS Y)) (hQ : OkQ (lyS Y)) (w a : Int) : ∃ H1, s_rltake [xV id Y, .c (.i w), .c (.i a)] H = some (.c (.b (tkB (lyS Y) w a)), H1) ∧ H.length ≤ H1.length ∧ XStep H H1 id Y (tkS (lyS Y) w a) := by
  have : ∃ v H1, s_rltake [xV id Y, .c (.i w), .c (.i a)] H = some (v, H1) ∧ H.length ≤ H1.length ∧ q_rltake [xV id Y, .c (.i w), .c (.i a)] H v H1 := by
    have g := s_rlright_eq (H := H) (id := id) (Y := Y) (w := w) (a := a)
    have post : ∀ {v H1}, v = .c (.b (tkB (lyS Y) w a)) → XStep H H1 id Y (tkS (lyS Y) w a) → q_rltake [xV id Y, .c (.i w), .c (.i a)] H v H1 := by
      intro v H1 h1 h2 id' Z w' a' he hZ _ _
      simp only [xV, List.cons.injEq, AV.c.injEq, Sc.sl.injEq, Sc.i.injEq, and_true] at he
      obtain ⟨⟨rfl, _⟩, rfl, rfl⟩ := he
      rw [← h.uniq hZ]
      exact ⟨h1, h2⟩
    unfold xV at g ⊢
    have ho := h.o
    have hr := ly_row h
    rw [ho] at hr
    simp only [AObj.row] at hr
    have lid := h.lt
    cases hrg : rgtS (lyS Y) w a with
    | false =>
      rw [hrg] at g
      unfold s_rltake
      apply frS_ex (v := .c (.b false)) Try.func19 rfl Try.results19 Try.ntmps19 (by simp only [List.length_cons, List.length_nil]; decide)
      · intro _ _
        (try simp (config := { maxSteps := 10000000 }) only [go_sem, seval, g]; repeat (simp (disch := omega) only [w64_d, ipos, ineg, dpos, dneg]; try simp (config := { maxSteps := 10000000 }) only [go_sem, seval, g]))
        exact fin_same
      · exact Nat.le_refl _
      · exact post (by unfold tkB; rw [hrg]; rfl) ⟨Y, h, XKp.refl, by unfold tkS; rw [hrg]; rfl⟩
    | true =>
      rw [hrg] at g
      obtain ⟨w0, w8, a0, an⟩ := rgt_inv hrg
      rw [lyS_len] at an
      obtain ⟨k, rfl⟩ : ∃ k : Nat, a = k := ⟨a.toNat, by omega⟩
      have hk : k < Y.length := by omega
      obtain ⟨y, hy⟩ : ∃ y, Y[k]? = some y := ⟨_, List.getElem?_eq_getElem hk⟩
      have hat := lyS_at hy
      have hym := List.mem_of_getElem? hy
      obtain ⟨c0, c1, cl⟩ := ly_cell hy
      have k1 : k * 2 + 1 ≤ (Y.flatMap lyC).length := by omega
      have k2 : k * 2 + 1 + 1 ≤ (Y.flatMap lyC).length := by omega
      have hx := h.q y hym
      by_cases e1 : y.h = w
      · have e1' := eq_true e1
        unfold s_rltake
        apply frS_ex (v := .c (.b true)) Try.func19 rfl Try.results19 Try.ntmps19 (by simp only [List.length_cons, List.length_nil]; decide)
        · intro _ _
          (try simp (config := { maxSteps := 10000000 }) only [go_sem, seval, g, a0, an, ho, hr, c0, k1, e1', Int.toNat_natCast]; repeat (simp (disch := omega) only [w64_d, ipos, ineg, dpos, dneg]; try simp (config := { maxSteps := 10000000 }) only [go_sem, seval, g, a0, an, ho, hr, c0, k1, e1', Int.toNat_natCast]))
          exact fin_same
        · exact Nat.le_refl _
        · refine post (by unfold tkB; rw [hrg, hat]; simp [e1]) ⟨Y, h, XKp.refl, ?_⟩
          unfold tkS; rw [hrg, hat, if_pos rfl, if_pos e1]
      · by_cases e2 : y.h < 0
        · have e2' := eq_true e2
          have hf := hS _ (lyS_mem hym) e2
          simp only [Prod.mk.injEq] at hf
          have r1 : wr (Y.flatMap lyC) (k * 2) [.i w] = (Y.flatMap lyC).set (k * 2) (.i w) := wr_one (by omega)
          have r2 : ((Y.flatMap lyC).set (k * 2) (.i w)).set (k * 2 + 1) y.x = (Y.flatMap lyC).set (k * 2) (.i w) := by
            exact set_sameD (by rw [List.length_set]; omega) (by rw [List.getD_eq_getElem?_getD, List.getElem?_set_ne (by omega), ← List.getD_eq_getElem?_getD, c1])
          obtain ⟨m1, m2, m3⟩ := h.repl (K := H.set id (.vec 2 ((Y.flatMap lyC).set (k * 2) (.i w)))) (z := { y with h := w }) hy (by simp) (fun i hi hne => hg_set_ne' (fun c => hne c.symm)) (by rw [hg_set_same lid]; show _ = AObj.vec 2 (((Y.flatMap lyC).set (k * 2) (.i w)).set (k * 2 + 1) y.x); rw [r2])
            (isx_frame hx fun i hi => hg_set_ne' (fun c => h.ne hym hi c.symm)) (fun i hi => .inl hi)
          unfold s_rltake
          apply frS_ex (v := .c (.b true)) (H1 := H.set id (.vec 2 ((Y.flatMap lyC).set (k * 2) (.i w)))) Try.func19 rfl Try.results19 Try.ntmps19 (by simp only [List.length_cons, List.length_nil]; decide)
          · intro _ _
            (try simp (config := { maxSteps := 10000000 }) only [go_sem, seval, g, a0, an, ho, hr, c0, k1, e1, e2', r1, Int.toNat_natCast]; repeat (simp (disch := omega) only [w64_d, ipos, ineg, dpos, dneg]; try simp (config := { maxSteps := 10000000 }) only [go_sem, seval, g, a0, an, ho, hr, c0, k1, e1, e2', r1, Int.toNat_natCast]))
            exact fin_same
          · simp
          · refine post (by unfold tkB; rw [hrg, hat]; simp [e2]) ⟨_, m1, m2, ?_⟩
            rw [m3]
            unfold tkS; rw [hrg, hat, if_pos rfl, if_neg e1, if_pos e2]
            simp only [hf.2, Int.toNat_natCast]
        · have tb : tkB (lyS Y) w k = false := by unfold tkB; rw [hrg, hat]; simp [e1]; omega
          have ql : y.q.length ≤ 100000 := hQ _ (lyS_mem hym)
          have cn := s_rlin_of (k := w) (isx_sp hx) (by omega)
          by_cases e3 : w ∈ y.q
          · rw [decide_eq_true e3] at cn
            unfold s_rltake
            apply frS_ex (v := .c (.b false)) Try.func19 rfl Try.results19 Try.ntmps19 (by simp only [List.length_cons, List.length_nil]; decide)
            · intro _ _
              (try simp (config := { maxSteps := 10000000 }) only [go_sem, seval, g, a0, an, ho, hr, c0, c1, k1, k2, e1, e2, cn, Int.toNat_natCast]; repeat (simp (disch := omega) only [w64_d, ipos, ineg, dpos, dneg]; try simp (config := { maxSteps := 10000000 }) only [go_sem, seval, g, a0, an, ho, hr, c0, c1, k1, k2, e1, e2, cn, Int.toNat_natCast]))
              exact fin_same
            · exact Nat.le_refl _
            · refine post (by rw [tb]) ⟨Y, h, XKp.refl, ?_⟩
              unfold tkS; rw [hrg, hat, if_pos rfl, if_neg e1, if_neg e2, if_pos e3]
          · rw [decide_eq_false e3] at cn
            have ts : tkS (lyS Y) w k = (lyS Y).set k (y.h, y.q ++ [w]) := by
              unfold tkS; rw [hrg, hat, if_pos rfl, if_neg e1, if_neg e2, if_neg e3]; rfl
            have r1 : ∀ x, wr (Y.flatMap lyC) (k * 2 + 1) [x] = (Y.flatMap lyC).set (k * 2 + 1) x := fun x => wr_one (by omega)
            have r2 : ∀ x, ((Y.flatMap lyC).set (k * 2) (.i y.h)).set (k * 2 + 1) x = (Y.flatMap lyC).set (k * 2 + 1) x := fun x => by
              rw [set_sameD (by omega) c0]
            have hfm : (y.q ++ [w]).flatMap encI = y.q.flatMap encI ++ [.i w] := by rw [fm_app]; rfl
            have qL : (y.q.flatMap encI).length = y.q.length := by rw [fm_len encI_l, Nat.mul_one]
            obtain ⟨m1, m2, m3⟩ := h.repl (K := (H ++ [AObj.vec 1 (y.q.flatMap encI ++ [Sc.i w]), AObj.vec 1 [.i w]]).set id (.vec 2 ((Y.flatMap lyC).set (k * 2 + 1) (.sl H.length 0 (y.q.length + 1) (y.q.length + 1))))) (z := ⟨y.h, .sl H.length 0 (y.q.length + 1) (y.q.length + 1), y.q ++ [w]⟩) hy (by simp)
              (fun i hi hne => by rw [hg_set_ne' (fun c => hne c.symm), hg_lt' hi]) (by rw [hg_set_same (by simp; omega)]; show _ = AObj.vec 2 (((Y.flatMap lyC).set (k * 2) (.i y.h)).set (k * 2 + 1) _); rw [r2])
              (.inr ⟨H.length, by simp, by rw [hg_set_ne' (by omega), hg_len, hfm]; rfl⟩) (fun i hi => by simp only [sidI, Option.some.injEq] at hi; omega)
            have hoX : ∀ X, hg (H ++ X) id = .vec 2 (Y.flatMap lyC) := fun X => by rw [hg_lt' lid, ho]
            unfold s_rltake
            apply frS_ex (v := .c (.b false)) (H1 := (H ++ [AObj.vec 1 (y.q.flatMap encI ++ [Sc.i w]), AObj.vec 1 [.i w]]).set id (.vec 2 ((Y.flatMap lyC).set (k * 2 + 1) (.sl H.length 0 (y.q.length + 1) (y.q.length + 1))))) Try.func19 rfl Try.results19 Try.ntmps19 (by simp only [List.length_cons, List.length_nil]; decide)
            · intro _ _
              rcases hx with ⟨x1, x2⟩ | ⟨i, x1, hi⟩
              · rw [x1] at c1 cn
                (try simp (config := { maxSteps := 10000000 }) only [go_sem, seval, g, a0, an, ho, hoX, hr, c0, c1, k1, k2, e1, e2, cn, r1, x2, Int.toNat_natCast]; repeat (simp (disch := omega) only [w64_d, ipos, ineg, dpos, dneg]; try simp (config := { maxSteps := 10000000 }) only [go_sem, seval, g, a0, an, ho, hoX, hr, c0, c1, k1, k2, e1, e2, cn, r1, x2, Int.toNat_natCast]))
                exact fin_same
              · have li : i < H.length := hg_lt (by rw [hi]; rfl)
                have hiX : ∀ X, hg (H ++ X) i = .vec 1 (y.q.flatMap encI) := fun X => by rw [hg_lt' li, hi]
                have tk : (y.q.flatMap encI).take y.q.length = y.q.flatMap encI := List.take_of_length_le (by omega)
                have q5 : y.q.length * 8 ≤ 1099511627776 := by omega
                have q6 : (y.q.length + 1) * 8 ≤ 1099511627776 := by omega
                have on := encI_one y.q
                rw [x1] at c1 cn
                (try simp (config := { maxSteps := 10000000 }) only [go_sem, seval, g, a0, an, ho, hoX, hiX, hr, c0, c1, k1, k2, e1, e2, cn, r1, qL, tk, q5, q6, on, Int.toNat_natCast]; repeat (simp (disch := omega) only [w64_d, ipos, ineg, dpos, dneg]; try simp (config := { maxSteps := 10000000 }) only [go_sem, seval, g, a0, an, ho, hoX, hiX, hr, c0, c1, k1, k2, e1, e2, cn, r1, qL, tk, q5, q6, on, Int.toNat_natCast]))
                exact fin_same
            · simp
            · exact post (by rw [tb]) ⟨_, m1, m2, by rw [ts, m3]⟩
  obtain ⟨v, H1, h1, hlen, h2⟩ := this
  obtain ⟨rfl, h3⟩ := h2 id Y w a rfl h hS hQ
  exact ⟨H1, h1, hlen, h3⟩
end
end
end Go.Proofs.Ythfccacopffkgaa
