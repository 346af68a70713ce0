/- A walk that goes through memory: contract. -/
import Derived.Test.YtanblagbkhpolaaWl2
import Derived.Test.YtanblagbkhpolaaWlv
namespace Go.Proofs.Ytanblagbkhpolaa
open Go.Am
set_option linter.unusedSimpArgs false
set_option linter.unusedVariables false
noncomputable section

def itT (z : ShS) (t : Ts) : Nat → Ts
  | 0 => t
  | i + 1 => stT z (itT z t i)
structure Tin (z : ShS) (i : Nat) (t : Ts) : Prop where
  w : wfE z.ram.n t.M
  l : t.R.length = 8
  a0 : 0 ≤ t.a
  a1 : t.a ≤ i
  b0 : 0 ≤ t.b
  b1 : t.b ≤ i
theorem itT_in {z : ShS} {t : Ts} (h : Tin z 0 t) : ∀ i, Tin z i (itT z t i)
  | 0 => h
  | i + 1 => by
    have ih := itT_in h i
    refine ⟨dM_wf (z := z.to _ _) ih.w, dR_len (z := z.to _ _) ih.l, ?_, ?_, ?_, ?_⟩
    all_goals (have h1 := ih.a0; have h2 := ih.a1; have h3 := ih.b0; have h4 := ih.b1)
    · show 0 ≤ tkA (itT z t i); unfold tkA; split <;> omega
    · show tkA (itT z t i) ≤ _; unfold tkA; split <;> omega
    · show 0 ≤ tkB (itT z t i); unfold tkB; split <;> omega
    · show tkB (itT z t i) ≤ _; unfold tkB; split <;> omega
theorem endE_ex (s : Wst) : ∃ p l d, endE s = entC p l d := by
  unfold endE
  split
  · exact ⟨_, _, _, rfl⟩
  · exact ⟨_, _, _, rfl⟩
def thR (z : ShS) (ln : Int) (ro va : BitVec 64) (ac pr : Int) (su mx : Bool) : To := thN z 20 ⟨beginW ln ro va ac pr su mx, z.ram.M, z.R, 0, 0⟩
def s_thru (args : List AV) (H : AH) : Option (AV × AH) :=
  match args with
  | [.c x, .g [.i ln, .u ro, .u va, .i ac, .i pr, .b su, .b mx]] =>
    (shQ H x).map fun z => (.t [.c (.i (thR z ln ro va ac pr su mx).e), .g (thR z ln ro va ac pr su mx).x, .g [.i (thR z ln ro va ac pr su mx).a, .i (thR z ln ro va ac pr su mx).b], .c (.b (thR z ln ro va ac pr su mx).q)], shSet H z (thR z ln ro va ac pr su mx).M (thR z ln ro va ac pr su mx).R)
  | _ => none
theorem s_thru_eq {H : AH} {x : Sc} {z : ShS} (hz : ShIs H x z) {ln : Int} {ro va : BitVec 64} {ac pr : Int} {su mx : Bool} : s_thru [.c x, .g [.i ln, .u ro, .u va, .i ac, .i pr, .b su, .b mx]] H =
    some (.t [.c (.i (thR z ln ro va ac pr su mx).e), .g (thR z ln ro va ac pr su mx).x, .g [.i (thR z ln ro va ac pr su mx).a, .i (thR z ln ro va ac pr su mx).b], .c (.b (thR z ln ro va ac pr su mx).q)], shSet H z (thR z ln ro va ac pr su mx).M (thR z ln ro va ac pr su mx).R) := by
  simp only [s_thru, shQ_of hz, Option.map_some]
theorem len_thru (args : List AV) (H : AH) (v : AV) (H1 : AH) (h : s_thru args H = some (v, H1)) : H.length ≤ H1.length := by
  unfold s_thru at h
  split at h
  · rw [Option.map_eq_some_iff] at h
    obtain ⟨z, _, h2⟩ := h
    simp only [Prod.mk.injEq] at h2
    rw [← h2.2, shSet_len]; exact Nat.le_refl _
  · simp at h
theorem thN_x (z : ShS) : ∀ (f : Nat) (t : Ts), ∃ p l d, (thN z f t).x = entC p l d
  | 0, t => ⟨_, _, _, rfl⟩
  | f + 1, t => by
    show ∃ p l d, (if endedW t.w = true then (⟨endI t.w, endE t.w, t.a, t.b, decide (t.w.ag = 0), t.M, t.R⟩ : To) else if dOk (z.to t.M t.R) 0 (askQ t.w) = true then thN z f (stT z t) else ⟨0, entC 0#64 0 0#64, tkA t, tkB t, false, t.M, t.R⟩).x = entC p l d
    split
    · exact endE_ex t.w
    · split
      · exact thN_x z f _
      · exact ⟨_, _, _, rfl⟩
theorem fin_thr {n : Nat} {e a b : Int} {p d : BitVec 64} {l : Int} {q : Bool} {H' H1 : AH} (hs : subH H1 H') (hb : belH H1 = true) (hn : n ≤ H1.length) :
    ∃ v', some (AV.t [.c (.i e), .g [.i 0, .u p, .i l, .u d], .g [.i a, .i b], .c (.b q)]) = some v' ∧ Wk n [(0, v')] H' ([(0, .t [.c (.i e), .g (entC p l d), .g [.i a, .i b], .c (.b q)])], H1) :=
  fin_fp rfl hs hb hn
theorem subH_mid {A B C : AH} : subH (A ++ B) (A ++ (B ++ C)) := by rw [← List.append_assoc]; exact subH_app _ _
set_option maxRecDepth 100000 in
set_option maxHeartbeats 8000000 in
theorem ok_thru : FpOk Try.prog 16 s_thru := by
  refine fp_ok (s := s_thru) (tab := [(11, .pu s_wbegin), (6, .fq s_wask), (7, .fq s_wend), (8, .fq s_wagain), (5, .fp s_wtell), (15, .fp s_sdo14)]) hmix (TabOk.cons (e := .pu s_wbegin) ok_wbegin (TabOk.cons (e := .fq s_wask) ok_wask (TabOk.cons (e := .fq s_wend) ok_wend (TabOk.cons (e := .fq s_wagain) ok_wagain (TabOk.cons (e := .fp s_wtell) ok_wtell (TabOk.cons (e := .fp s_sdo14) ok_sdo14 TabOk.nil)))))) Try.func16 rfl Try.results16 Try.ntmps16 (by kernel_rfl) (by kernel_rfl) len_thru ?_
  intro args H v H1 h hargs hH
  unfold s_thru at h
  split at h
  · rename_i x ln ro va ac pr su mx
    rw [Option.map_eq_some_iff] at h
    obtain ⟨z, hz, h2⟩ := h
    simp only [Prod.mk.injEq] at h2
    obtain ⟨rfl, rfl⟩ := h2
    refine ⟨by simp only [List.length_cons, List.length_nil]; decide, ?_⟩
    have hS := shQ_inv hz
    have hx := hS.x
    subst hx
    have slf := hS.self
    obtain ⟨t0, ht0⟩ : ∃ t0 : Ts, t0 = ⟨beginW ln ro va ac pr su mx, z.ram.M, z.R, 0, 0⟩ := ⟨_, rfl⟩
    have eR : thR z ln ro va ac pr su mx = thN z 20 t0 := by rw [ht0]; rfl
    rw [eR]
    generalize ho : thN z 20 t0 = o at *
    have hin := itT_in (z := z) (t := t0) (by rw [ht0]; exact ⟨hS.r.w, hS.l, by simp, by simp, by simp, by simp⟩)
    have w0 : (itT z t0 0).w = beginW ln ro va ac pr su mx := by rw [ht0]; rfl
    have ab0 : (itT z t0 0).a = 0 ∧ (itT z t0 0).b = 0 := by rw [ht0]; exact ⟨rfl, rfl⟩
    let A : Nat → AH := fun i => shSet H z (itT z t0 i).M (itT z t0 i).R
    have A0 : A 0 = H := by show shSet _ _ _ _ = _; rw [ht0]; exact slf
    have lA : ∀ i, (A i).length = H.length := fun i => shSet_len
    have bA : ∀ i, belH (A i) = true := fun i => hS.bel hH _ _
    have nv : ∀ i j X, nvw (A i ++ X) (A j ++ X) := fun i j X => sh_nvw hS _ _ _ _ X
    have pD : ∀ i k a d o X, s_sdo14 [.c (.p z.id 0 0), .c (.i 0), .g [.i k, .u a, .u 0#64, .i 0, .i 8, .i 0, .u d, .u o, .b false, .i 0, .b false, .b false, .b false, .u 0#64, .i 0, .i 0, .u 0#64, .i 0, .u 0#64]] (A i ++ X) =
        some (.t [.g (anC (dD (z.to (itT z t0 i).M (itT z t0 i).R) 0 ⟨k, a, 0#64, 0, 8, 0, d, o, false⟩) (dG (z.to (itT z t0 i).M (itT z t0 i).R) 0 ⟨k, a, 0#64, 0, 8, 0, d, o, false⟩)), .c (.b (dOk (z.to (itT z t0 i).M (itT z t0 i).R) 0 ⟨k, a, 0#64, 0, 8, 0, d, o, false⟩))], shSet H z (dM (z.to (itT z t0 i).M (itT z t0 i).R) 0 ⟨k, a, 0#64, 0, 8, 0, d, o, false⟩) (dR (z.to (itT z t0 i).M (itT z t0 i).R) 0 ⟨k, a, 0#64, 0, 8, 0, d, o, false⟩) ++ X) := fun i k a d o X => sh_do hS (hin i).w (hin i).l X zA10
    have An : ∀ i, A (i + 1) = shSet H z (dM (z.to (itT z t0 i).M (itT z t0 i).R) 0 (askQ (itT z t0 i).w)) (dR (z.to (itT z t0 i).M (itT z t0 i).R) 0 (askQ (itT z t0 i).w)) := fun i => rfl
    have Ae : ∀ i, A i = shSet H z (itT z t0 i).M (itT z t0 i).R := fun i => rfl
    have Ano : ∀ i, dOk (z.to (itT z t0 i).M (itT z t0 i).R) 0 (askQ (itT z t0 i).w) = false → shSet H z (dM (z.to (itT z t0 i).M (itT z t0 i).R) 0 (askQ (itT z t0 i).w)) (dR (z.to (itT z t0 i).M (itT z t0 i).R) 0 (askQ (itT z t0 i).w)) = A i := fun i ok => by
      rw [(no_same (z := z.to (itT z t0 i).M (itT z t0 i).R) ok).1, (no_same (z := z.to (itT z t0 i).M (itT z t0 i).R) ok).2]; rfl
    clear_value A
    have hA0 : ∀ i X, hg (A i ++ X) H.length = hg X 0 := fun i X => by rw [← lA i, hg_len]
    have hAj : ∀ i X j, hg (A i ++ X) (H.length + j) = hg X j := fun i X j => by rw [← lA i, hg_len_add]
    have sAj : ∀ i X j o, (A i ++ X).set (H.length + j) o = A i ++ X.set j o := fun i X j o => by rw [← lA i, set_len_add]
    have wask' : ∀ i s a b c d X, s_wask [.c (.p (H.length + 3) 0 0)] (A i ++ a :: b :: c :: .own (wkC s) :: d :: X) = some (.t [.g (askW s), .c (.b (!endedW s))]) := fun i s a b c d X => s_wask_of (by rw [hAj]; rfl)
    have wend' : ∀ i s a b c d X, s_wend [.c (.p (H.length + 3) 0 0)] (A i ++ a :: b :: c :: .own (wkC s) :: d :: X) = some (.t [.c (.i (endI s)), .g (endE s)]) := fun i s a b c d X => s_wend_of (by rw [hAj]; rfl)
    have wag' : ∀ i s a b c d X, s_wagain [.c (.p (H.length + 3) 0 0)] (A i ++ a :: b :: c :: .own (wkC s) :: d :: X) = some (.c (.i s.ag)) := fun i s a b c d X => s_wagain_of (by rw [hAj]; rfl)
    have wtell' : ∀ i s a b c d X d0 g0, s_wtell [.c (.p (H.length + 3) 0 0), .g (.u d0 :: .b g0 :: zMl)] (A i ++ a :: b :: c :: .own (wkC s) :: d :: X) = some (.t [], A i ++ a :: b :: c :: .own (wkC (tellW s d0 g0)) :: d :: X) := fun i s a b c d X d0 g0 => by
      rw [s_wtell_of (s := s) (by rw [hAj]; rfl) ⟨zMl_len, zMl_one⟩, sAj]; rfl
    have bb : ∀ i s a b, belH (A i ++ [.own [.i ln, .u ro, .u va, .i ac, .i pr, .b su, .b mx], .own [.i 0, .u 0#64, .i 0, .u 0#64], .own [.i 0, .i 0], .own (wkC s), .own [.i a, .i b]]) = true := fun i s a b => belH_app (bA i) (by
      simp only [List.mem_cons, List.not_mem_nil, or_false, forall_eq_or_imp, forall_eq]; exact ⟨rfl, rfl, rfl, wkC_bel _ _, rfl⟩)
    (try simp (config := { maxSteps := 10000000 }) only [go_sem, seval, s_wbegin_eq, wkC_len, wkC_one, wkC_take]; repeat (simp (disch := omega) only [w64_d, ipos, ineg, dpos, dneg]; try simp (config := { maxSteps := 10000000 }) only [go_sem, seval, s_wbegin_eq, wkC_len, wkC_one, wkC_take]))
    rw [arun_loop]
    refine ⟨{i : Nat // i ≤ 20 ∧ o = thN z (20 - i) (itT z t0 i)}, fun i => ([(0, .c (.p z.id 0 0)), (3, .c (.p H.length 0 0)), (5, .c (.p (H.length + 1) 0 0)), (6, .c (.p (H.length + 2) 0 0)), (8, .c (.p (H.length + 3) 0 0)), (9, .c (.p (H.length + 4) 0 0)), (10, .c (.i i.1))], A i.1 ++ [.own [.i ln, .u ro, .u va, .i ac, .i pr, .b su, .b mx], .own [.i 0, .u 0#64, .i 0, .u 0#64], .own [.i 0, .i 0], .own (wkC (itT z t0 i.1).w), .own [.i (itT z t0 i.1).a, .i (itT z t0 i.1).b]]), fun i => 20 - i.1, ⟨0, by omega, ho.symm⟩, ?_, ?_⟩
    · exact Wk.wk (by simp [lo, lA]) (by simp [Am.get]) (by simp [AV.bel, Sc.bel, lA, hS.lid]; have := hS.lid; omega) (by rw [A0, w0, ab0.1, ab0.2]; exact subH_refl _) (bb _ _ _ _)
    · rintro ⟨i, hi, hT⟩
      by_cases hlt : i < 20
      · have e0 : (i : Int) < 20 := by omega
        have e1 : w64 ((i : Int) + 1) = ((i + 1 : Nat) : Int) := by rw [w64_d (by omega) (by omega)]; omega
        have I := hin i
        obtain ⟨f, hf⟩ : ∃ f, 20 - i = f + 1 := ⟨20 - i - 1, by omega⟩
        rw [hf] at hT
        have nI : (itT z t0 (i + 1)) = stT z (itT z t0 i) := rfl
        have a1 : w64 ((itT z t0 i).a + 1) = (itT z t0 i).a + 1 := w64_d (by have := I.a0; omega) (by have := I.a1; omega)
        have b1 : w64 ((itT z t0 i).b + 1) = (itT z t0 i).b + 1 := w64_d (by have := I.b0; omega) (by have := I.b1; omega)
        have Ani := An i
        have Anoi := Ano i
        have pDi := pD i
        have Aei := Ae i
        have nIw : (itT z t0 (i + 1)).w = tellW (itT z t0 i).w (dD (z.to (itT z t0 i).M (itT z t0 i).R) 0 (askQ (itT z t0 i).w)) (dG (z.to (itT z t0 i).M (itT z t0 i).R) 0 (askQ (itT z t0 i).w)) := rfl
        have nIa : (itT z t0 (i + 1)).a = tkA (itT z t0 i) := rfl
        have nIb : (itT z t0 (i + 1)).b = tkB (itT z t0 i) := rfl
        cases hE : endedW (itT z t0 i).w
        · -- it goes on
          have goT : dOk (z.to (itT z t0 i).M (itT z t0 i).R) 0 (askQ (itT z t0 i).w) = true → o = thN z (20 - (i + 1)) (itT z t0 (i + 1)) := fun ok => by
            rw [hT, thN_go hE ok, nI, show 20 - (i + 1) = f by omega]
          have noT : dOk (z.to (itT z t0 i).M (itT z t0 i).R) 0 (askQ (itT z t0 i).w) = false → o = ⟨0, entC 0#64 0 0#64, tkA (itT z t0 i), tkB (itT z t0 i), false, (itT z t0 i).M, (itT z t0 i).R⟩ := fun ok => by
            rw [hT]
            show (if endedW (itT z t0 i).w = true then _ else if dOk (z.to (itT z t0 i).M (itT z t0 i).R) 0 (askQ (itT z t0 i).w) = true then _ else _) = _
            rw [if_neg (by simp [hE]), if_neg (by simp [ok])]
          cases hm : (itT z t0 i).w.mrk
          · have eA : askW (itT z t0 i).w = askC 7 (itT z t0 i).w.at_ 8 0#64 0#64 := by unfold askW; rw [hE, hm]; rfl
            have eQ : askQ (itT z t0 i).w = ⟨7, (itT z t0 i).w.at_, 0#64, 0, 8, 0, 0#64, 0#64, false⟩ := by unfold askQ; rw [hm]; rfl
            have kA : tkA (itT z t0 i) = (itT z t0 i).a + 1 := by unfold tkA; rw [hm]; rfl
            have kB : tkB (itT z t0 i) = (itT z t0 i).b := by unfold tkB; rw [hm]; rfl
            rw [eQ] at Ani Anoi goT noT nIw
            rw [kA] at noT nIa
            rw [kB] at noT nIb
            have pDi := pDi 7 (itT z t0 i).w.at_ 0#64 0#64
            cases ok : dOk (z.to (itT z t0 i).M (itT z t0 i).R) 0 ⟨7, (itT z t0 i).w.at_, 0#64, 0, 8, 0, 0#64, 0#64, false⟩
            · have noT := noT ok
              rw [Anoi ok, ok] at pDi
              subst noT
              (try simp (config := { maxSteps := 10000000 }) only [go_sem, seval, e0, wask', hE, eA, askC, hA0, hAj, sAj, lA, a1, pDi, anC]; repeat (simp (disch := omega) only [w64_d, ipos, ineg, dpos, dneg]; try simp (config := { maxSteps := 10000000 }) only [go_sem, seval, e0, wask', hE, eA, askC, hA0, hAj, sAj, lA, a1, pDi, anC]))
              (repeat' first | apply And.intro | (intro c; exact absurd c (by omega)) | (intro _; kernel_rfl) | kernel_rfl)
              exact fin_thr (by rw [← Ae]; exact subH_app _ _) (by rw [← Ae]; exact bA _) (by rw [← Ae, lA]; exact Nat.le_refl _)
            · have goT := goT ok
              rw [← Ani, ok] at pDi
              (try simp (config := { maxSteps := 10000000 }) only [go_sem, seval, e0, e1, wask', hE, eA, askC, hA0, hAj, sAj, lA, a1, pDi, wtell', anC]; repeat (simp (disch := omega) only [w64_d, ipos, ineg, dpos, dneg]; try simp (config := { maxSteps := 10000000 }) only [go_sem, seval, e0, e1, wask', hE, eA, askC, hA0, hAj, sAj, lA, a1, pDi, wtell', anC]))
              exact ⟨⟨i + 1, by omega, goT⟩, by simp only; omega, Wk.wk (by simp [lo, lA]) (by simp [Am.get]) (by simp [AV.bel, Sc.bel, lA]; have := hS.lid; omega) (by simp only [nIw, nIa, nIb]; exact subH_mid (B := [_, _, _, _, _]) (C := [_, _])) (bb _ _ _ _)⟩
          · have eA : askW (itT z t0 i).w = askC 8 (itT z t0 i).w.at_ 8 (markU (itT z t0 i).w.et (itT z t0 i).w.ac) (itT z t0 i).w.et := by unfold askW; rw [hE, hm]; rfl
            have eQ : askQ (itT z t0 i).w = ⟨8, (itT z t0 i).w.at_, 0#64, 0, 8, 0, markU (itT z t0 i).w.et (itT z t0 i).w.ac, (itT z t0 i).w.et, false⟩ := by unfold askQ; rw [hm]; rfl
            have kA : tkA (itT z t0 i) = (itT z t0 i).a := by unfold tkA; rw [hm]; rfl
            have kB : tkB (itT z t0 i) = (itT z t0 i).b + 1 := by unfold tkB; rw [hm]; rfl
            rw [eQ] at Ani Anoi goT noT nIw
            rw [kA] at noT nIa
            rw [kB] at noT nIb
            have pDi := pDi 8 (itT z t0 i).w.at_ (markU (itT z t0 i).w.et (itT z t0 i).w.ac) (itT z t0 i).w.et
            cases ok : dOk (z.to (itT z t0 i).M (itT z t0 i).R) 0 ⟨8, (itT z t0 i).w.at_, 0#64, 0, 8, 0, markU (itT z t0 i).w.et (itT z t0 i).w.ac, (itT z t0 i).w.et, false⟩
            · have noT := noT ok
              rw [Anoi ok, ok] at pDi
              subst noT
              (try simp (config := { maxSteps := 10000000 }) only [go_sem, seval, e0, wask', hE, eA, askC, hA0, hAj, sAj, lA, b1, pDi, anC]; repeat (simp (disch := omega) only [w64_d, ipos, ineg, dpos, dneg]; try simp (config := { maxSteps := 10000000 }) only [go_sem, seval, e0, wask', hE, eA, askC, hA0, hAj, sAj, lA, b1, pDi, anC]))
              (repeat' first | apply And.intro | (intro c; exact absurd c (by omega)) | (intro _; kernel_rfl) | kernel_rfl)
              exact fin_thr (by rw [← Ae]; exact subH_app _ _) (by rw [← Ae]; exact bA _) (by rw [← Ae, lA]; exact Nat.le_refl _)
            · have goT := goT ok
              rw [← Ani, ok] at pDi
              (try simp (config := { maxSteps := 10000000 }) only [go_sem, seval, e0, e1, wask', hE, eA, askC, hA0, hAj, sAj, lA, b1, pDi, wtell', anC]; repeat (simp (disch := omega) only [w64_d, ipos, ineg, dpos, dneg]; try simp (config := { maxSteps := 10000000 }) only [go_sem, seval, e0, e1, wask', hE, eA, askC, hA0, hAj, sAj, lA, b1, pDi, wtell', anC]))
              exact ⟨⟨i + 1, by omega, goT⟩, by simp only; omega, Wk.wk (by simp [lo, lA]) (by simp [Am.get]) (by simp [AV.bel, Sc.bel, lA]; have := hS.lid; omega) (by simp only [nIw, nIa, nIb]; exact subH_mid (B := [_, _, _, _, _]) (C := [_, _])) (bb _ _ _ _)⟩
        · -- it has ended
          obtain ⟨p, l, d, hx⟩ := endE_ex (itT z t0 i).w
          have eT : o = ⟨endI (itT z t0 i).w, entC p l d, (itT z t0 i).a, (itT z t0 i).b, decide ((itT z t0 i).w.ag = 0), (itT z t0 i).M, (itT z t0 i).R⟩ := by rw [hT, thN_end hE, hx]
          subst eT
          have oA : (askW (itT z t0 i).w) = askC 0 0#64 0 0#64 0#64 := by unfold askW; rw [hE]; rfl
          (try simp (config := { maxSteps := 10000000 }) only [go_sem, seval, e0, wask', wend', wag', hE, oA, hx, askC, entC, hA0, hAj, sAj, lA]; repeat (simp (disch := omega) only [w64_d, ipos, ineg, dpos, dneg]; try simp (config := { maxSteps := 10000000 }) only [go_sem, seval, e0, wask', wend', wag', hE, oA, hx, askC, entC, hA0, hAj, sAj, lA]))
          (repeat' first | apply And.intro | (intro c; exact absurd c (by omega)) | (intro _; kernel_rfl) | kernel_rfl)
          exact fin_thr (by rw [← Ae]; exact subH_app _ _) (by rw [← Ae]; exact bA _) (by rw [← Ae, lA]; exact Nat.le_refl _)
      · obtain rfl : i = 20 := by omega
        have eT : o = ⟨0, entC 0#64 0 0#64, (itT z t0 20).a, (itT z t0 20).b, false, (itT z t0 20).M, (itT z t0 20).R⟩ := hT
        subst eT
        (try simp (config := { maxSteps := 10000000 }) only [go_sem, seval, hA0, hAj, sAj, lA]; repeat (simp (disch := omega) only [w64_d, ipos, ineg, dpos, dneg]; try simp (config := { maxSteps := 10000000 }) only [go_sem, seval, hA0, hAj, sAj, lA]))
        (repeat' first | apply And.intro | (intro c; exact absurd c (by omega)) | (intro _; kernel_rfl) | kernel_rfl)
        exact fin_thr (by rw [← Ae]; exact subH_app _ _) (by rw [← Ae]; exact bA _) (by rw [← Ae, lA]; exact Nat.le_refl _)
  · simp at h
end
end Go.Proofs.Ytanblagbkhpolaa
