/- Layer 12: locks that are given back, made and copied: contracts. -/
import Derived.Test.YthfccacopffkgaaLk5
namespace Go.Proofs.Ythfccacopffkgaa
open Go.Am
set_option linter.unusedSimpArgs false
set_option linter.unusedVariables false
noncomputable section
set_option maxRecDepth 100000

section
variable {H : AH} {D : Ld}
theorem op_delete {l : List Operand} {ts : Array Nat} : opnds (.call ⟨.builtin .delete, l.toArray, ts⟩) = l := rfl
def q_ldrop (args : List AV) (H : AH) (v : AV) (H1 : AH) : Prop := (∀ w a, args = [.c .nilp, .c (.i w), .c (.i a)] → v = .c (.b false) ∧ H1 = H) ∧
  ∀ D w a, args = [.c (.p D.p 0 0), .c (.i w), .c (.i a)] → LI H D → v = .c (.b (drB D.S w a)) ∧ LStep H H1 D (drS D.S w a)
def s_ldrop : List AV → AH → Option (AV × AH) := frS Try.prog [(38, .fq s_lthere), (32, .fp s_lclone)] 16 q_ldrop
set_option maxRecDepth 100000 in
set_option maxHeartbeats 2000000 in
theorem ok_ldrop : FpOk Try.prog 16 s_ldrop := frS_ok hmix (TabOk.cons (e := .fq s_lthere) ok_lthere (TabOk.cons (e := .fp s_lclone) ok_lclone TabOk.nil)) Try.func16 rfl Try.results16 Try.ntmps16 (by kernel_rfl) (by kernel_rfl)
theorem s_ldrop_nil {w a : Int} : s_ldrop [.c .nilp, .c (.i w), .c (.i a)] H = some (.c (.b false), H) := by
  have : ∃ v H1, s_ldrop [.c .nilp, .c (.i w), .c (.i a)] H = some (v, H1) ∧ H.length ≤ H1.length ∧ q_ldrop [.c .nilp, .c (.i w), .c (.i a)] H v H1 := by
    have g := s_lthere_nil (H := H) (w := w) (a := a)
    unfold s_ldrop
    apply frS_ex (v := .c (.b false)) Try.func16 rfl Try.results16 Try.ntmps16 (by simp only [List.length_cons, List.length_nil]; decide)
    · intro _ _
      (try simp (config := { maxSteps := 10000000 }) only [go_sem, seval, g]; repeat (simp (disch := omega) only [w64_d, ipos, ineg, dpos, dneg]; try simp (config := { maxSteps := 10000000 }) only [go_sem, seval, g]))
      exact fin_same
    · exact Nat.le_refl _
    · exact ⟨fun _ _ _ => ⟨rfl, rfl⟩, fun E k x he hE => by simp at he⟩
  obtain ⟨v, H1, h1, _, h2⟩ := this
  obtain ⟨rfl, rfl⟩ := h2.1 w a rfl
  exact h1
theorem erM {A B : List En} {e : En} : ((A ++ e :: B).map enM).eraseIdx A.length = (A ++ B).map enM := by
  rw [List.map_append, List.map_cons, List.eraseIdx_append_of_length_le (by simp), List.length_map, Nat.sub_self, List.eraseIdx_cons_zero, List.map_append]
theorem s_ldrop_ex (h : LI H D) (w a : Int) : ∃ H1, s_ldrop [.c (.p D.p 0 0), .c (.i w), .c (.i a)] H = some (.c (.b (drB D.S w a)), H1) ∧ H.length ≤ H1.length ∧ LStep H H1 D (drS D.S w a) := by
  have : ∃ v H1, s_ldrop [.c (.p D.p 0 0), .c (.i w), .c (.i a)] H = some (v, H1) ∧ H.length ≤ H1.length ∧ q_ldrop [.c (.p D.p 0 0), .c (.i w), .c (.i a)] H v H1 := by
    have g := s_lthere_eq h (w := w) (a := a)
    have hp := h.hp
    have hm := h.hm
    have lm := h.lt (show D.m ∈ D.ids by simp [Ld.ids])
    have fA := findA_en (P := Try.prog) (kt := 3) (by kernel_rfl) a D.es 0
    have post : ∀ {v H1}, v = .c (.b (drB D.S w a)) → LStep H H1 D (drS D.S w a) → q_ldrop [.c (.p D.p 0 0), .c (.i w), .c (.i a)] H v H1 := by
      intro v H1 h1 h2
      refine ⟨fun _ _ he => by simp at he, fun E k x he hE => ?_⟩
      simp only [List.cons.injEq, AV.c.injEq, Sc.p.injEq, Sc.i.injEq, and_true] at he
      obtain ⟨e1, rfl, rfl⟩ := he
      rw [← h.uniq hE e1]
      exact ⟨h1, h2⟩
    have no : drB D.S w a = false → LStep H H D (drS D.S w a) := fun hb => ⟨D, h, LKp.refl, by unfold drS; rw [hb]; rfl⟩
    cases hr : rgtS D.S w a with
    | false =>
      rw [hr] at g
      have nb : drB D.S w a = false := by unfold drB; rw [hr]; rfl
      unfold s_ldrop
      apply frS_ex (v := .c (.b false)) Try.func16 rfl Try.results16 Try.ntmps16 (by simp only [List.length_cons, List.length_nil]; decide)
      · intro _ _
        (try simp (config := { maxSteps := 10000000 }) only [go_sem, seval, g]; repeat (simp (disch := omega) only [w64_d, ipos, ineg, dpos, dneg]; try simp (config := { maxSteps := 10000000 }) only [go_sem, seval, g]))
        exact fin_same
      · exact Nat.le_refl _
      · exact post (by rw [nb]) (no nb)
    | true =>
      rw [hr] at g
      obtain ⟨w0, w8, a0, an⟩ := rgt_inv hr
      rw [S_lenI h] at an
      rcases h.find a with ⟨f1, f2⟩ | ⟨A, e, B, f1, f2, f3, f4, f5⟩
      · rw [f2] at fA
        have hat := fd_free h a0 an f1
        have nb : drB D.S w a = false := by unfold drB; rw [hr, hat]; simp; omega
        unfold s_ldrop
        apply frS_ex (v := .c (.b false)) Try.func16 rfl Try.results16 Try.ntmps16 (by simp only [List.length_cons, List.length_nil]; decide)
        · intro _ _
          (try simp (config := { maxSteps := 10000000 }) only [go_sem, seval, g, hp, hm, fA]; repeat (simp (disch := omega) only [w64_d, ipos, ineg, dpos, dneg]; try simp (config := { maxSteps := 10000000 }) only [go_sem, seval, g, hp, hm, fA]))
          exact fin_same
        · exact Nat.le_refl _
        · exact post (by rw [nb]) (no nb)
      · rw [f5] at fA
        have hem := (fdK_some f3).1
        obtain ⟨hl, hx⟩ := h.he e hem
        obtain ⟨_, _, hat, h0, h8⟩ := fd_at h f3
        have ok := h.ok e hem
        have ql := h.qlen hem
        by_cases hw : e.h = w
        · have hw' := eq_true hw
          have yb : drB D.S w a = true := by unfold drB; rw [hr, hat]; simp [hw]
          have ys : drS D.S w a = match e.q with | [] => D.S.set a.toNat (-1, []) | x :: r => D.S.set a.toNat (x, r) := by
            unfold drS; rw [yb, if_pos rfl, hat]; rfl
          have ll := h.lt (mem_eids hem (show e.l ∈ eids e by simp [eids]))
          cases hq : e.q with
          | nil =>
            have xl : ∀ t, lenB (.sl t) (.c e.x) = some (.c (.i 0)) := by
              intro t
              rw [hq] at hx
              rcases hx with ⟨x1, _⟩ | ⟨i, x1, _⟩ <;> rw [x1] <;> rfl
            have xs : (lenB (.sl 0) (.c e.x)).isSome = true := by rw [xl]; rfl
            have er := erM (A := A) (B := B) (e := e)
            rw [← f1] at er
            obtain ⟨m1, m2, m3⟩ := h.less (K := H.set D.m (.map D.clk ((A ++ B).map enM))) f1 (by simp) (fun i hi hne => hg_set_ne' (fun c => hne c.symm)) (hg_set_same lm)
            unfold s_ldrop
            apply frS_ex (v := .c (.b true)) (H1 := H.set D.m (.map D.clk ((A ++ B).map enM))) Try.func16 rfl Try.results16 Try.ntmps16 (by simp only [List.length_cons, List.length_nil]; decide)
            · intro _ _
              (try simp (config := { maxSteps := 10000000 }) only [go_sem, seval, g, hp, hm, fA, hl, hw', xl, xs, as_len_y, op_delete, er]; repeat (simp (disch := omega) only [w64_d, ipos, ineg, dpos, dneg]; try simp (config := { maxSteps := 10000000 }) only [go_sem, seval, g, hp, hm, fA, hl, hw', xl, xs, as_len_y, op_delete, er]))
              exact fin_same
            · simp
            · exact post (by rw [yb]) ⟨_, m1, m2, by rw [ys, m3, hq, f2]⟩
          | cons x r =>
            have hx2 := hx
            rw [hq] at hx2
            rcases hx2 with ⟨x1, x2⟩ | ⟨i, x1, hi⟩
            · simp at x2
            have li := (isx_lt (.inr ⟨i, x1, hi⟩) (x := e.x) (A := x :: r) (by rw [x1]; rfl)).1
            have ne : i ≠ e.l := fun c => by rw [c, hl] at hi; simp at hi
            rw [hq] at ql
            simp only [List.length_cons] at ql
            have cl := isx_tail (H := H.set e.l (.own [.i x, e.x])) (i := i) (a := x) (A := r) (by rw [hg_set_ne' (fun c => ne c.symm), hi]) (by omega)
            have hc := s_lclone_eq cl
            rw [List.length_set] at hc
            rw [x1] at hl hc
            simp only [List.length_cons] at hl hc
            have gl : ((x :: r).flatMap encI).length = r.length + 1 := by rw [fm_len encI_l]; simp
            have g0 : ((x :: r).flatMap encI).getD 0 .any = .i x := rfl
            have hls : ∀ o, hg (H.set e.l o) e.l = o := fun o => hg_set_same ll
            have hls2 : ∀ o X, hg (H.set e.l o ++ X) e.l = o := fun o X => by rw [hg_lt' (by simpa using ll), hls]
            have lx : (x :: r).length = r.length + 1 := rfl
            have okr : EnOk D.n D.clk { e with h := x, x := .sl H.length 0 r.length r.length, q := r } := by
              have o1 := ok.q
              have o2 := ok.nd
              rw [hq] at o1 o2
              exact ⟨ok.b, ok.k0, ok.kn, (o1 x (by simp)).1, (o1 x (by simp)).2, fun y hy => o1 y (by simp [hy]), (List.nodup_cons.1 o2).2⟩
            obtain ⟨m1, m2, m3⟩ := h.repl (K := (H.set e.l (AObj.own [.i x, .sl i 0 (r.length + 1) (r.length + 1)]) ++ [AObj.vec 1 (r.flatMap encI)]).set e.l (.own [.i x, .sl H.length 0 r.length r.length])) (f := { e with h := x, x := .sl H.length 0 r.length r.length, q := r }) f1
              (by simp) (fun j hj hne => by rw [hg_set_ne' (fun c => hne (by simp [eids, c])), hg_lt' (by simpa using hj), hg_set_ne' (fun c => hne (by simp [eids, c]))]) ⟨rfl, rfl, rfl⟩ (by rw [hg_set_same (by simp; omega)])
              (.inr ⟨H.length, rfl, by rw [hg_set_ne' (by omega)]; have := hg_len (H := H.set e.l (AObj.own [.i x, .sl i 0 (r.length + 1) (r.length + 1)])) (X := [AObj.vec 1 (r.flatMap encI)]); rw [List.length_set] at this; rw [this]; rfl⟩) (fun j hj => by simp only [sidI, Option.some.injEq] at hj; omega) okr
            unfold s_ldrop
            apply frS_ex (v := .c (.b true)) (H1 := (H.set e.l (AObj.own [.i x, .sl i 0 (r.length + 1) (r.length + 1)]) ++ [AObj.vec 1 (r.flatMap encI)]).set e.l (.own [.i x, .sl H.length 0 r.length r.length])) Try.func16 rfl Try.results16 Try.ntmps16 (by simp only [List.length_cons, List.length_nil]; decide)
            · intro _ _
              (try simp (config := { maxSteps := 10000000 }) only [go_sem, seval, g, hp, hm, fA, hl, hw', hi, gl, g0, hls, hls2, hc, lx]; repeat (simp (disch := omega) only [w64_d, ipos, ineg, dpos, dneg]; try simp (config := { maxSteps := 10000000 }) only [go_sem, seval, g, hp, hm, fA, hl, hw', hi, gl, g0, hls, hls2, hc, lx]))
              exact fin_same
            · simp
            · exact post (by rw [yb]) ⟨_, m1, m2, by rw [ys, m3, hq, f2]⟩
        · have nb : drB D.S w a = false := by unfold drB; rw [hr, hat]; simp [hw]
          unfold s_ldrop
          apply frS_ex (v := .c (.b false)) Try.func16 rfl Try.results16 Try.ntmps16 (by simp only [List.length_cons, List.length_nil]; decide)
          · intro _ _
            (try simp (config := { maxSteps := 10000000 }) only [go_sem, seval, g, hp, hm, fA, hl, hw]; repeat (simp (disch := omega) only [w64_d, ipos, ineg, dpos, dneg]; try simp (config := { maxSteps := 10000000 }) only [go_sem, seval, g, hp, hm, fA, hl, hw]))
            exact fin_same
          · exact Nat.le_refl _
          · exact post (by rw [nb]) (no nb)
  obtain ⟨v, H1, h1, hlen, h2⟩ := this
  obtain ⟨rfl, h3⟩ := h2.2 D w a rfl h
  exact ⟨H1, h1, hlen, h3⟩
/-! ### new locks -/
def s_lnew (args : List AV) (H : AH) : Option (AV × AH) :=
  match args with
  | [.c (.i n)] => if 1 ≤ n ∧ n ≤ 128 then some (.t [.c (.p (H.length + 1) 0 0), .c (.i 0)], H ++ [.map 0 [], .own [.i n, .mp H.length]]) else some (.t [.c .nilp, .c (.i 1)], H)
  | _ => none
theorem len_lnew (args : List AV) (H : AH) (v : AV) (H1 : AH) (h : s_lnew args H = some (v, H1)) : H.length ≤ H1.length := by
  unfold s_lnew at h
  repeat' split at h
  all_goals simp at h
  all_goals rw [← h.2]
  all_goals simp
set_option maxRecDepth 100000 in
set_option maxHeartbeats 2000000 in
theorem ok_lnew : FpOk Try.prog 8 s_lnew := by
  refine fp_ok (s := s_lnew) (tab := []) hmix TabOk.nil Try.func8 rfl Try.results8 Try.ntmps8 (by kernel_rfl) (by kernel_rfl) len_lnew ?_
  intro args H v H1 h hargs hH
  unfold s_lnew at h
  split at h
  · rename_i n
    refine ⟨by simp only [List.length_cons, List.length_nil]; decide, ?_⟩
    by_cases c1 : n < 1
    · rw [if_neg (by omega)] at h
      simp only [Option.some.injEq, Prod.mk.injEq] at h
      obtain ⟨rfl, rfl⟩ := h
      (try simp (config := { maxSteps := 10000000 }) only [go_sem, seval, c1]; repeat (simp (disch := omega) only [w64_d, ipos, ineg, dpos, dneg]; try simp (config := { maxSteps := 10000000 }) only [go_sem, seval, c1]))
      exact fin_same
    · by_cases c2 : 128 < n
      · rw [if_neg (by omega)] at h
        simp only [Option.some.injEq, Prod.mk.injEq] at h
        obtain ⟨rfl, rfl⟩ := h
        (try simp (config := { maxSteps := 10000000 }) only [go_sem, seval, c1, c2]; repeat (simp (disch := omega) only [w64_d, ipos, ineg, dpos, dneg]; try simp (config := { maxSteps := 10000000 }) only [go_sem, seval, c1, c2]))
        exact fin_same
      · rw [if_pos (by omega)] at h
        simp only [Option.some.injEq, Prod.mk.injEq] at h
        obtain ⟨rfl, rfl⟩ := h
        (try simp (config := { maxSteps := 10000000 }) only [go_sem, seval, c1, c2]; repeat (simp (disch := omega) only [w64_d, ipos, ineg, dpos, dneg]; try simp (config := { maxSteps := 10000000 }) only [go_sem, seval, c1, c2]))
        exact fin_same
  · simp at h
def L0 (n : Int) : LS := List.replicate n.toNat (-1, [])
theorem LI.new {n : Int} (h1 : 1 ≤ n) (h2 : n ≤ 128) : LI (H ++ [.map 0 [], .own [.i n, .mp H.length]]) ⟨H.length + 1, H.length, n, 0, []⟩ ∧ (⟨H.length + 1, H.length, n, 0, []⟩ : Ld).S = L0 n := by
  refine ⟨⟨by show hg _ (H.length + 1) = _; rw [hg_len_add]; rfl, by show hg _ H.length = _; rw [hg_len]; rfl, by simp, by simp [Ld.ids], by simp, by simp, by simp, h1, h2⟩, ?_⟩
  unfold Ld.S L0
  apply List.ext_getElem?
  intro k
  rw [List.getElem?_map, List.getElem?_replicate]
  by_cases c : k < n.toNat
  · rw [List.getElem?_range c, if_pos c]; rfl
  · rw [List.getElem?_eq_none (by simpa using c), if_neg c]; rfl
end
end
end Go.Proofs.Ythfccacopffkgaa
