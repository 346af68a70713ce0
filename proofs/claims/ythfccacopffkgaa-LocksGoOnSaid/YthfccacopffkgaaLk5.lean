/- Layer 12: locks that are taken, given back and made: contracts. -/
import Derived.Test.YthfccacopffkgaaLk4
namespace Go.Proofs.Ythfccacopffkgaa
open Go.Am
set_option linter.unusedSimpArgs false
set_option linter.unusedVariables false
noncomputable section
set_option maxRecDepth 100000

section
variable {H : AH} {D : Ld}
def LStep (H H1 : AH) (D : Ld) (S : LS) : Prop := ∃ E, LI H1 E ∧ LKp H H1 D E ∧ E.S = S
def q_ltake (args : List AV) (H : AH) (v : AV) (H1 : AH) : Prop := (∀ w a, args = [.c .nilp, .c (.i w), .c (.i a)] → v = .c (.b false) ∧ H1 = H) ∧
  ∀ D w a, args = [.c (.p D.p 0 0), .c (.i w), .c (.i a)] → LI H D → v = .c (.b (tkB D.S w a)) ∧ LStep H H1 D (tkS D.S w a)
def s_ltake : List AV → AH → Option (AV × AH) := frS Try.prog [(38, .fq s_lthere), (37, .fq s_lcon)] 18 q_ltake
set_option maxRecDepth 100000 in
set_option maxHeartbeats 2000000 in
theorem ok_ltake : FpOk Try.prog 18 s_ltake := frS_ok hmix (TabOk.cons (e := .fq s_lthere) ok_lthere (TabOk.cons (e := .fq s_lcon) ok_lcon TabOk.nil)) Try.func18 rfl Try.results18 Try.ntmps18 (by kernel_rfl) (by kernel_rfl)
theorem s_ltake_nil {w a : Int} : s_ltake [.c .nilp, .c (.i w), .c (.i a)] H = some (.c (.b false), H) := by
  have : ∃ v H1, s_ltake [.c .nilp, .c (.i w), .c (.i a)] H = some (v, H1) ∧ H.length ≤ H1.length ∧ q_ltake [.c .nilp, .c (.i w), .c (.i a)] H v H1 := by
    have g := s_lthere_nil (H := H) (w := w) (a := a)
    unfold s_ltake
    apply frS_ex (v := .c (.b false)) Try.func18 rfl Try.results18 Try.ntmps18 (by simp only [List.length_cons, List.length_nil]; decide)
    · intro _ _
      (try simp (config := { maxSteps := 10000000 }) only [go_sem, seval, g]; repeat (simp (disch := omega) only [w64_d, ipos, ineg, dpos, dneg]; try simp (config := { maxSteps := 10000000 }) only [go_sem, seval, g]))
      exact fin_same
    · exact Nat.le_refl _
    · exact ⟨fun _ _ _ => ⟨rfl, rfl⟩, fun E k x he hE => by simp at he⟩
  obtain ⟨v, H1, h1, _, h2⟩ := this
  obtain ⟨rfl, rfl⟩ := h2.1 w a rfl
  exact h1
theorem rgt_inv {S : LS} {w a : Int} (h : rgtS S w a = true) : 0 ≤ w ∧ w < 8 ∧ 0 ≤ a ∧ a < S.length := by
  simp only [rgtS, Bool.and_eq_true, decide_eq_true_eq] at h
  exact ⟨h.1.1.1, h.1.1.2, h.1.2, h.2⟩
theorem s_ltake_ex (h : LI H D) (w a : Int) : ∃ H1, s_ltake [.c (.p D.p 0 0), .c (.i w), .c (.i a)] H = some (.c (.b (tkB D.S w a)), H1) ∧ H.length ≤ H1.length ∧ LStep H H1 D (tkS D.S w a) := by
  have : ∃ v H1, s_ltake [.c (.p D.p 0 0), .c (.i w), .c (.i a)] H = some (v, H1) ∧ H.length ≤ H1.length ∧ q_ltake [.c (.p D.p 0 0), .c (.i w), .c (.i a)] H v H1 := by
    have g := s_lthere_eq h (w := w) (a := a)
    have hp := h.hp
    have hm := h.hm
    have hpX := fun X => (h.app X).hp
    have hmX := fun X => (h.app X).hm
    have lm := h.lt (show D.m ∈ D.ids by simp [Ld.ids])
    have fA := findA_en (P := Try.prog) (kt := 3) (by kernel_rfl) a D.es 0
    have post : ∀ {v H1}, v = .c (.b (tkB D.S w a)) → LStep H H1 D (tkS D.S w a) → q_ltake [.c (.p D.p 0 0), .c (.i w), .c (.i a)] H v H1 := by
      intro v H1 h1 h2
      refine ⟨fun _ _ he => by simp at he, fun E k x he hE => ?_⟩
      simp only [List.cons.injEq, AV.c.injEq, Sc.p.injEq, Sc.i.injEq, and_true] at he
      obtain ⟨e1, rfl, rfl⟩ := he
      rw [← h.uniq hE e1]
      exact ⟨h1, h2⟩
    cases hr : rgtS D.S w a with
    | false =>
      rw [hr] at g
      unfold s_ltake
      apply frS_ex (v := .c (.b false)) Try.func18 rfl Try.results18 Try.ntmps18 (by simp only [List.length_cons, List.length_nil]; decide)
      · intro _ _
        (try simp (config := { maxSteps := 10000000 }) only [go_sem, seval, g]; repeat (simp (disch := omega) only [w64_d, ipos, ineg, dpos, dneg]; try simp (config := { maxSteps := 10000000 }) only [go_sem, seval, g]))
        exact fin_same
      · exact Nat.le_refl _
      · exact post (by unfold tkB; rw [hr]; rfl) ⟨D, h, LKp.refl, by unfold tkS; rw [hr]; rfl⟩
    | true =>
      rw [hr] at g
      obtain ⟨w0, w8, a0, an⟩ := rgt_inv hr
      rw [S_lenI h] at an
      rcases h.find a with ⟨f1, f2⟩ | ⟨A, e, B, f1, f2, f3, f4, f5⟩
      · -- free
        rw [f2] at fA
        have hat := fd_free h a0 an f1
        have lX : (D.m == H.length) = false := by simp; omega
        obtain ⟨m1, m2, m3⟩ := h.more (K := (H ++ [AObj.own [.i w, .nils]]).set D.m (.map (D.clk + 1) (D.es.map enM ++ [(D.clk, AV.c (.i a), AV.c (.p H.length 0 0))]))) (f := ⟨D.clk, a, H.length, w, .nils, []⟩)
          (by simp) (fun i hi hne => by rw [hg_set_ne' (fun c => hne c.symm), hg_lt' hi]) (by rw [hg_set_same (by simp; omega)]; rfl) f1 rfl (Nat.le_refl _)
          (by show hg _ H.length = _; rw [hg_set_ne' (by omega), hg_len]; rfl) (.inl ⟨rfl, rfl⟩) (fun i hi => by simp [sidI] at hi) ⟨Nat.lt_succ_self _, a0, an, w0, w8, by simp, by simp⟩
        unfold s_ltake
        apply frS_ex (v := .c (.b true)) (H1 := (H ++ [AObj.own [.i w, .nils]]).set D.m (.map (D.clk + 1) (D.es.map enM ++ [(D.clk, AV.c (.i a), AV.c (.p H.length 0 0))]))) Try.func18 rfl Try.results18 Try.ntmps18 (by simp only [List.length_cons, List.length_nil]; decide)
        · intro _ _
          (try simp (config := { maxSteps := 10000000 }) only [go_sem, seval, g, hp, hm, hpX, hmX, fA]; repeat (simp (disch := omega) only [w64_d, ipos, ineg, dpos, dneg]; try simp (config := { maxSteps := 10000000 }) only [go_sem, seval, g, hp, hm, hpX, hmX, fA]))
          exact fin_same
        · simp
        · refine post ?_ ⟨_, m1, m2, ?_⟩
          · unfold tkB; rw [hr, hat]; simp
          · rw [m3]
            unfold tkS
            rw [hr, hat, if_pos rfl, if_neg (show ¬ ((-1 : Int) = w) by omega), if_pos (by decide)]
      · rw [f5] at fA
        have hem := (fdK_some f3).1
        obtain ⟨hl, hx⟩ := h.he e hem
        obtain ⟨_, _, hat, h0, h8⟩ := fd_at h f3
        have ok := h.ok e hem
        by_cases hw : e.h = w
        · have hw' := eq_true hw
          unfold s_ltake
          apply frS_ex (v := .c (.b true)) Try.func18 rfl Try.results18 Try.ntmps18 (by simp only [List.length_cons, List.length_nil]; decide)
          · intro _ _
            (try simp (config := { maxSteps := 10000000 }) only [go_sem, seval, g, hp, hm, fA, hl, hw']; repeat (simp (disch := omega) only [w64_d, ipos, ineg, dpos, dneg]; try simp (config := { maxSteps := 10000000 }) only [go_sem, seval, g, hp, hm, fA, hl, hw']))
            exact fin_same
          · exact Nat.le_refl _
          · refine post ?_ ⟨D, h, LKp.refl, ?_⟩
            · unfold tkB; rw [hr, hat]; simp [hw]
            · unfold tkS; rw [hr, hat, if_pos rfl, if_pos hw]
        · have ql := h.qlen hem
          have hcn := s_lcon_of (k := w) (isx_sl hx) (by omega)
          have tb : tkB D.S w a = false := by
            unfold tkB; rw [hr, hat]
            simp [hw]; omega
          by_cases hq : w ∈ e.q
          · rw [decide_eq_true hq] at hcn
            unfold s_ltake
            apply frS_ex (v := .c (.b false)) Try.func18 rfl Try.results18 Try.ntmps18 (by simp only [List.length_cons, List.length_nil]; decide)
            · intro _ _
              (try simp (config := { maxSteps := 10000000 }) only [go_sem, seval, g, hp, hm, fA, hl, hw, hcn]; repeat (simp (disch := omega) only [w64_d, ipos, ineg, dpos, dneg]; try simp (config := { maxSteps := 10000000 }) only [go_sem, seval, g, hp, hm, fA, hl, hw, hcn]))
              exact fin_same
            · exact Nat.le_refl _
            · refine post (by rw [tb]) ⟨D, h, LKp.refl, ?_⟩
              unfold tkS; rw [hr, hat, if_pos rfl, if_neg hw, if_neg (show ¬ e.h < 0 by omega), if_pos hq]
          · rw [decide_eq_false hq] at hcn
            have ts : tkS D.S w a = D.S.set e.k.toNat (e.h, e.q ++ [w]) := by
              unfold tkS; rw [hr, hat, if_pos rfl, if_neg hw, if_neg (show ¬ e.h < 0 by omega), if_neg hq, f2]
            have okn : EnOk D.n D.clk { e with q := e.q ++ [w] } := ⟨ok.b, ok.k0, ok.kn, ok.h0, ok.h8, fun x hx => by
              rcases List.mem_append.1 hx with c | c
              · exact ok.q x c
              · rw [List.mem_singleton] at c; omega, by
              show (e.q ++ [w]).Nodup
              rw [List.nodup_append]
              exact ⟨ok.nd, by simp, fun x hx y hy hxy => by rw [List.mem_singleton] at hy; exact hq (by rw [← hy, ← hxy]; exact hx)⟩⟩
            have ll := h.lt (mem_eids hem (show e.l ∈ eids e by simp [eids]))
            have hlX : ∀ X, hg (H ++ X) e.l = .own [.i e.h, e.x] := fun X => by rw [hg_lt' ll, hl]
            rcases hx with ⟨x1, x2⟩ | ⟨i, x1, hi⟩
            · -- no queue yet
              rw [x1] at hl hlX hcn
              obtain ⟨m1, m2, m3⟩ := h.repl (K := (H ++ [AObj.vec 1 [.i w], AObj.vec 1 [.i w]]).set e.l (.own [.i e.h, .sl (H.length + 1) 0 1 1])) (f := { e with x := .sl (H.length + 1) 0 1 1, q := e.q ++ [w] }) f1
                (by simp) (fun i hi hne => by rw [hg_set_ne' (fun c => hne (by simp [eids, c])), hg_lt' hi]) ⟨rfl, rfl, rfl⟩ (by rw [hg_set_same (by simp; omega)])
                (by rw [x2]; exact .inr ⟨H.length + 1, rfl, by rw [hg_set_ne' (by omega), hg_len_add]; rfl⟩) (fun i hi => by simp only [sidI, Option.some.injEq] at hi; omega) ⟨okn.b, okn.k0, okn.kn, okn.h0, okn.h8, okn.q, okn.nd⟩
              unfold s_ltake
              apply frS_ex (v := .c (.b false)) (H1 := (H ++ [AObj.vec 1 [.i w], AObj.vec 1 [.i w]]).set e.l (.own [.i e.h, .sl (H.length + 1) 0 1 1])) Try.func18 rfl Try.results18 Try.ntmps18 (by simp only [List.length_cons, List.length_nil]; decide)
              · intro _ _
                (try simp (config := { maxSteps := 10000000 }) only [go_sem, seval, g, hp, hm, fA, hl, hlX, hw, hcn]; repeat (simp (disch := omega) only [w64_d, ipos, ineg, dpos, dneg]; try simp (config := { maxSteps := 10000000 }) only [go_sem, seval, g, hp, hm, fA, hl, hlX, hw, hcn]))
                exact fin_same
              · simp
              · exact post (by rw [tb]) ⟨_, m1, m2, by rw [ts, m3]⟩
            · have li := (isx_lt (.inr ⟨i, x1, hi⟩) (x := e.x) (A := e.q) (by rw [x1]; rfl)).1
              rw [x1] at hl hlX hcn
              have hiX : ∀ X, hg (H ++ X) i = .vec 1 (e.q.flatMap encI) := fun X => by rw [hg_lt' li, hi]
              have qL : (e.q.flatMap encI).length = e.q.length := by rw [fm_len encI_l, Nat.mul_one]
              have ne : i ≠ e.l := fun c => by rw [c, hl] at hi; simp at hi
              have q5 : (e.q.length + 1) * 8 ≤ 1099511627776 := by omega
              have hq' : e.q.flatMap encI ++ [Sc.i w] = (e.q ++ [w]).flatMap encI := by rw [fm_app]; rfl
              obtain ⟨m1, m2, m3⟩ := h.repl (K := ((H ++ [AObj.vec 1 [.i w]]).set i (.vec 1 (e.q.flatMap encI ++ [Sc.i w]))).set e.l (.own [.i e.h, .sl i 0 (e.q.length + 1) (e.q.length + 1)])) (f := { e with x := .sl i 0 (e.q.length + 1) (e.q.length + 1), q := e.q ++ [w] }) f1
                (by simp) (fun j hj hne => by rw [hg_set_ne' (fun c => hne (by simp [eids, c])), hg_set_ne' (fun c => hne (by simp [eids, x1, sidI, c])), hg_lt' hj]) ⟨rfl, rfl, rfl⟩ (by rw [hg_set_same (by simp; omega)])
                (.inr ⟨i, by simp, by rw [hg_set_ne' (fun c => ne c.symm), hg_set_same (by simp; omega), hq']⟩) (fun j hj => by rw [x1]; exact .inl hj) ⟨okn.b, okn.k0, okn.kn, okn.h0, okn.h8, okn.q, okn.nd⟩
              have hset : ∀ o, hg (((H ++ [AObj.vec 1 [.i w]]).set i o)) e.l = .own [.i e.h, .sl i 0 e.q.length e.q.length] := fun o => by rw [hg_set_ne' ne, hlX]
              unfold s_ltake
              apply frS_ex (v := .c (.b false)) (H1 := ((H ++ [AObj.vec 1 [.i w]]).set i (.vec 1 (e.q.flatMap encI ++ [Sc.i w]))).set e.l (.own [.i e.h, .sl i 0 (e.q.length + 1) (e.q.length + 1)])) Try.func18 rfl Try.results18 Try.ntmps18 (by simp only [List.length_cons, List.length_nil]; decide)
              · intro _ _
                (try simp (config := { maxSteps := 10000000 }) only [go_sem, seval, g, hp, hm, fA, hl, hlX, hiX, hw, hcn, qL, q5, hset]; repeat (simp (disch := omega) only [w64_d, ipos, ineg, dpos, dneg]; try simp (config := { maxSteps := 10000000 }) only [go_sem, seval, g, hp, hm, fA, hl, hlX, hiX, hw, hcn, qL, q5, hset]))
                exact fin_same
              · simp
              · exact post (by rw [tb]) ⟨_, m1, m2, by rw [ts, m3]⟩
  obtain ⟨v, H1, h1, hlen, h2⟩ := this
  obtain ⟨rfl, h3⟩ := h2.2 D w a rfl h
  exact ⟨H1, h1, hlen, h3⟩
end
end
end Go.Proofs.Ythfccacopffkgaa
