/- Layer 17: the document's port, read: contracts. -/
import Derived.Test.YtfddaaplnnlfoaaU12
namespace Go.Proofs.Ytfddaaplnnlfoaa
open Go.Am
set_option linter.unusedSimpArgs false
set_option linter.unusedVariables false
noncomputable section

theorem slD_app {H X : AH} {x : Sc} {A : List Int} (h : slD 1 dc8 H x = some A) (hb : x.bel H.length = true) : slD 1 dc8 (H ++ X) x = some A := slD_keep h (fun _ hk => hg_app hk) hb
theorem rp_app {H X : AH} {t : Pt} {x y : Sc} (h : RpOk H t x y) (hx : x.bel H.length = true) (hy : y.bel H.length = true) : RpOk (H ++ X) t x y :=
  ⟨slD_app h.hx hx, slD_app h.hy hy, h.e, h.l, h.m, h.s, h.dl, h.dm, h.la, h.lb⟩
def rdX (t : Pt) (off : BitVec 64) : Bool := decide (off = 0#64) && decide (an8 t.l 128 = 0) && decide (0 < t.A.length)
def s_rread (args : List AV) (H : AH) : Option (AV × AH) :=
  match args with
  | [.g c, .c (.u off)] =>
    match rpD H c with
    | some (t, x, y) =>
      if rdX t off = true then
        some (.t [.g (rpC (readP t off).1 (.sl (H.length + 2) 0 (t.A.length - 1) (t.A.length - 1)) y), .c (.i (readP t off).2.1), .c (.b (readP t off).2.2)],
          H ++ [.own (rpC (readP t off).1 (.sl (H.length + 2) 0 (t.A.length - 1) (t.A.length - 1)) y), .own (rpC (readP t off).1 (.sl (H.length + 2) 0 (t.A.length - 1) (t.A.length - 1)) y), .vec 1 (t.A.tail.flatMap enc8)])
      else some (.t [.g (rpC (readP t off).1 x y), .c (.i (readP t off).2.1), .c (.b (readP t off).2.2)], H ++ [.own (rpC (readP t off).1 x y), .own (rpC (readP t off).1 x y)])
    | none => none
  | _ => none
theorem len_rread (args : List AV) (H : AH) (v : AV) (H1 : AH) (h : s_rread args H = some (v, H1)) : H.length ≤ H1.length := by
  unfold s_rread at h
  repeat' split at h
  all_goals simp at h
  all_goals rw [← h.2]; simp
theorem cause_rg (t : Pt) : causeP t = 6 ∨ causeP t = 4 ∨ causeP t = 2 ∨ causeP t = 1 := by
  unfold causeP causeT
  repeat' split
  all_goals simp
theorem told_sum (t : Pt) : or8 (causeP t) 192 = w64 (causeP t + 192) := by
  rcases cause_rg t with h | h | h | h <;> rw [h] <;> decide
theorem state_sum (lo : Bool) (n : Nat) : stateT lo n = (if lo = true then w64 ((if 0 < n then w64 (96 + 1) else 96) + 2) else (if 0 < n then w64 (96 + 1) else 96)) := by
  unfold stateT
  by_cases h : 0 < n
  · rw [if_pos h, if_pos h]; cases lo <;> decide
  · rw [if_neg h, if_neg h]; cases lo <;> decide
set_option maxHeartbeats 8000000 in
set_option maxRecDepth 100000 in
set_option maxHeartbeats 2000000 in
theorem ok_rread : FpOk Try.prog 47 s_rread := by
  refine fp_ok (s := s_rread) (tab := [(78, .pu s_rbit), (55, .fq s_rcause)]) hmix (TabOk.cons (e := .pu s_rbit) ok_rbit (TabOk.cons (e := .fq s_rcause) ok_rcause TabOk.nil)) Try.func47 rfl Try.results47 Try.ntmps47 (by kernel_rfl) (by kernel_rfl) len_rread ?_
  intro args H v H1 h hargs hH
  unfold s_rread at h
  split at h
  · rename_i c off
    split at h
    · rename_i t x y hr
      obtain ⟨rfl, ok⟩ := rpD_inv hr
      refine ⟨by simp only [List.length_cons, List.length_nil]; decide, ?_⟩
      have hargs' : (rpC t x y).all (Sc.bel H.length) = true := by simp only [List.all_cons, AV.bel, Bool.and_eq_true] at hargs; exact hargs.1
      obtain ⟨bx, bY⟩ := rp_bel hargs'
      have la := ok.la
      have ca : ∀ X, s_rcause [.g (rpC t x y)] (H ++ X) = some (.c (.i (causeP t))) := fun X => s_rcause_eq (rp_app ok bx bY)
      have b7 := bq7 ok.l
      have b4 := bz4 ok.m
      have rl : 0 ≤ t.l ∧ t.l ≤ 255 := ok.l
      have rm : 0 ≤ t.m ∧ t.m ≤ 255 := ok.m
      have n7 : (7 : Int).toNat = 7 := rfl
      have n4 : (4 : Int).toNat = 4 := rfl
      have n3 : (3 : Int).toNat = 3 := rfl
      have n2 : (2 : Int).toNat = 2 := rfl
      have n0 : (0 : Int).toNat = 0 := rfl
      have n1 : (1 : Int).toNat = 1 := rfl
      have ts := told_sum t
      have ss := state_sum t.lo t.A.length
      generalize hcp : causeP t = cp at ca ts
      have len := e8_len t.A
      have h0l : (0 : Int) < (t.A.length : Int) ↔ 0 < t.A.length := by omega
      have h0e : ((t.A.length : Int) = 0) = ¬ 0 < t.A.length := by apply propext; omega
      simp only [rpC] at ca
      rcases off8 off with h7 | rfl | rfl | rfl | rfl | rfl | rfl | rfl | rfl
      · have rx : rdX t off = false := by
          unfold rdX
          have : ¬ off = 0#64 := fun e => by rw [e] at h7; exact absurd h7 (by decide)
          rw [decide_eq_false this]; rfl
        have rp : readP t off = (t, 0, false) := if_pos h7
        have e0 : (off = 0#64) = False := eq_false fun e => by rw [e] at h7; exact absurd h7 (by decide)
        have e1 : (off = 1#64) = False := eq_false fun e => by rw [e] at h7; exact absurd h7 (by decide)
        have e2 : (off = 2#64) = False := eq_false fun e => by rw [e] at h7; exact absurd h7 (by decide)
        have e3 : (off = 3#64) = False := eq_false fun e => by rw [e] at h7; exact absurd h7 (by decide)
        have e4 : (off = 4#64) = False := eq_false fun e => by rw [e] at h7; exact absurd h7 (by decide)
        have e5 : (off = 5#64) = False := eq_false fun e => by rw [e] at h7; exact absurd h7 (by decide)
        have e6 : (off = 6#64) = False := eq_false fun e => by rw [e] at h7; exact absurd h7 (by decide)
        have e7 : (off = 7#64) = False := eq_false fun e => by rw [e] at h7; exact absurd h7 (by decide)
        rw [rx, rp] at h
        simp only [Bool.false_eq_true, if_false, if_true, Option.some.injEq, Prod.mk.injEq] at h
        obtain ⟨rfl, rfl⟩ := h
        rcases sl_cases ok.hx with ⟨rfl, hA⟩ | ⟨i, v', rfl, hv, hcs⟩ <;> rcases sl_cases ok.hy with ⟨rfl, hB⟩ | ⟨i2, v2, rfl, hv2, hcs2⟩
        all_goals (try simp (config := { maxSteps := 10000000 }) only [go_sem, seval, -Int.reducePow, rpC, s_rbit_eq, rl, n7, b7, e0, e1, e2, e3, e4, e5, e6, e7]; repeat (simp (disch := omega) only [w64_d, ipos, ineg, dpos, dneg]; try simp (config := { maxSteps := 10000000 }) only [go_sem, seval, -Int.reducePow, rpC, s_rbit_eq, rl, n7, b7, e0, e1, e2, e3, e4, e5, e6, e7]))
        all_goals first | exact fin_same | exact ⟨⟨fun e => absurd e (by omega), fun e => absurd e (by omega)⟩, fin_same⟩ | exact ⟨fun e => absurd e (by omega), fin_same⟩ | exact ⟨by (repeat' apply And.intro) <;> (intro e; omega), fin_same⟩
      · by_cases hl : an8 t.l 128 = 0
        rotate_left
        · have rx : rdX t 0#64 = false := by unfold rdX; rw [decide_eq_false hl]; rfl
          have rp : readP t 0#64 = (t, t.dl, true) := by unfold readP; rw [if_neg (by decide), if_pos rfl, if_neg hl]
          rw [rx, rp] at h
          simp only [Bool.false_eq_true, if_false, Option.some.injEq, Prod.mk.injEq] at h
          obtain ⟨rfl, rfl⟩ := h
          rcases sl_cases ok.hx with ⟨rfl, hA⟩ | ⟨i, v', rfl, hv, hcs⟩ <;> rcases sl_cases ok.hy with ⟨rfl, hB⟩ | ⟨i2, v2, rfl, hv2, hcs2⟩
          all_goals (try simp (config := { maxSteps := 10000000 }) only [go_sem, seval, -Int.reducePow, rpC, s_rbit_eq, rl, n7, b7, hl]; repeat (simp (disch := omega) only [w64_d, ipos, ineg, dpos, dneg]; try simp (config := { maxSteps := 10000000 }) only [go_sem, seval, -Int.reducePow, rpC, s_rbit_eq, rl, n7, b7, hl]))
          all_goals first | exact fin_same | exact ⟨⟨fun e => absurd e (by omega), fun e => absurd e (by omega)⟩, fin_same⟩ | exact ⟨fun e => absurd e (by omega), fin_same⟩ | exact ⟨by (repeat' apply And.intro) <;> (intro e; omega), fin_same⟩
        have rp : readP t 0#64 = ((takeP t).1, (takeP t).2, true) := by unfold readP; rw [if_neg (by decide), if_pos rfl, if_pos hl]
        have rx : rdX t 0#64 = decide (0 < t.A.length) := by unfold rdX; rw [decide_eq_true hl]; simp
        rw [rx, rp] at h
        by_cases hz : 0 < t.A.length
        rotate_left
        · have tk : takeP t = (t, 0) := by
            have : t.A = [] := List.eq_nil_of_length_eq_zero (by omega)
            unfold takeP; rw [this]
          rw [decide_eq_false hz, tk] at h
          simp only [Bool.false_eq_true, if_false, Option.some.injEq, Prod.mk.injEq] at h
          obtain ⟨rfl, rfl⟩ := h
          have hz2 : ((t.A.length : Int) = 0) = True := eq_true (by omega)
          rcases sl_cases ok.hx with ⟨rfl, hA⟩ | ⟨i, v', rfl, hv, hcs⟩ <;> rcases sl_cases ok.hy with ⟨rfl, hB⟩ | ⟨i2, v2, rfl, hv2, hcs2⟩
          all_goals (try simp (config := { maxSteps := 10000000 }) only [go_sem, seval, -Int.reducePow, rpC, s_rbit_eq, rl, n7, b7, hl, hz2]; repeat (simp (disch := omega) only [w64_d, ipos, ineg, dpos, dneg]; try simp (config := { maxSteps := 10000000 }) only [go_sem, seval, -Int.reducePow, rpC, s_rbit_eq, rl, n7, b7, hl, hz2]))
          all_goals first | exact fin_same | exact ⟨⟨fun e => absurd e (by omega), fun e => absurd e (by omega)⟩, fin_same⟩ | exact ⟨fun e => absurd e (by omega), fin_same⟩ | exact ⟨by (repeat' apply And.intro) <;> (intro e; omega), fin_same⟩
        obtain ⟨a, A', hA'⟩ : ∃ a A', t.A = a :: A' := by
          cases hh : t.A with
          | nil => rw [hh] at hz; simp at hz
          | cons a A' => exact ⟨a, A', rfl⟩
        have tk : takeP t = ({ t with A := A' }, a) := by unfold takeP; rw [hA']
        rw [decide_eq_true hz, tk] at h
        simp only [if_true, Option.some.injEq, Prod.mk.injEq] at h
        obtain ⟨rfl, rfl⟩ := h
        have ll : t.A.length = A'.length + 1 := by rw [hA']; rfl
        rcases sl_cases ok.hx with ⟨rfl, hA⟩ | ⟨i, v', rfl, hv, hcs⟩
        · rw [hA] at hz; simp at hz
        have li : i < H.length := by simpa [Sc.bel] using bx
        have gi : ∀ X, hg (H ++ X) i = hg H i := fun X => hg_app li
        rw [hA'] at hcs
        have hcs' : (hg H i).cells = .k .u8 a :: A'.flatMap enc8 := hcs
        have hv := hv.symm
        have tk2 : (A'.flatMap enc8).take A'.length = A'.flatMap enc8 := List.take_of_length_le (by rw [e8_len]; exact Nat.le_refl _)
        have l2 := e8_len A'
        have o2 := e8_one A'
        have lim : A'.length ≤ 1099511627776 := by omega
        have ez : ((A'.length : Int) + 1 = 0) = False := eq_false (by omega)
        rw [hA']
        rw [ll] at *
        rcases sl_cases ok.hy with ⟨rfl, hB⟩ | ⟨i2, v2, rfl, hv2, hcs2⟩
        all_goals (try simp (config := { maxSteps := 10000000 }) only [go_sem, seval, -Int.reducePow, rpC, s_rbit_eq, rl, n7, b7, hl, ez, gi, hv, hcs', tk2, l2, o2, lim, List.tail_cons, Nat.add_sub_cancel]; repeat (simp (disch := omega) only [w64_d, ipos, ineg, dpos, dneg]; try simp (config := { maxSteps := 10000000 }) only [go_sem, seval, -Int.reducePow, rpC, s_rbit_eq, rl, n7, b7, hl, ez, gi, hv, hcs', tk2, l2, o2, lim, List.tail_cons, Nat.add_sub_cancel]))
        all_goals first | exact fin_same | exact ⟨⟨fun e => absurd e (by omega), fun e => absurd e (by omega)⟩, fin_same⟩ | exact ⟨fun e => absurd e (by omega), fin_same⟩ | exact ⟨by (repeat' apply And.intro) <;> (intro e; omega), fin_same⟩
      · have rx : rdX t 1#64 = false := rfl
        have rp : readP t 1#64 = (t, (if an8 t.l 128 = 0 then t.e else t.dm), true) := rfl
        rw [rx, rp] at h
        simp only [Bool.false_eq_true, if_false, if_true, Option.some.injEq, Prod.mk.injEq] at h
        obtain ⟨rfl, rfl⟩ := h
        by_cases hl : an8 t.l 128 = 0
        all_goals rcases sl_cases ok.hx with ⟨rfl, hA⟩ | ⟨i, v', rfl, hv, hcs⟩ <;> rcases sl_cases ok.hy with ⟨rfl, hB⟩ | ⟨i2, v2, rfl, hv2, hcs2⟩
        all_goals (try simp (config := { maxSteps := 10000000 }) only [go_sem, seval, -Int.reducePow, rpC, s_rbit_eq, rl, n7, b7, hl]; repeat (simp (disch := omega) only [w64_d, ipos, ineg, dpos, dneg]; try simp (config := { maxSteps := 10000000 }) only [go_sem, seval, -Int.reducePow, rpC, s_rbit_eq, rl, n7, b7, hl]))
        all_goals first | exact fin_same | exact ⟨⟨fun e => absurd e (by omega), fun e => absurd e (by omega)⟩, fin_same⟩ | exact ⟨fun e => absurd e (by omega), fin_same⟩ | exact ⟨by (repeat' apply And.intro) <;> (intro e; omega), fin_same⟩
      · have rx : rdX t 2#64 = false := rfl
        have rp : readP t 2#64 = (if cp = 2 then { t with em := false } else t, if t.ff = true then w64 (cp + 192) else cp, true) := by
          have : readP t 2#64 = ((toldP t).1, (toldP t).2, true) := rfl
          rw [this]; unfold toldP; rw [hcp, ts]
        rw [rx, rp] at h
        by_cases h2 : cp = 2 <;> cases hf : t.ff
        all_goals rw [hf] at ca
        all_goals simp only [h2, hf, Bool.false_eq_true, if_false, if_true, Option.some.injEq, Prod.mk.injEq] at h
        all_goals obtain ⟨rfl, rfl⟩ := h
        all_goals rcases sl_cases ok.hx with ⟨rfl, hA⟩ | ⟨i, v', rfl, hv, hcs⟩ <;> rcases sl_cases ok.hy with ⟨rfl, hB⟩ | ⟨i2, v2, rfl, hv2, hcs2⟩
        all_goals (try simp (config := { maxSteps := 10000000 }) only [go_sem, seval, -Int.reducePow, rpC, s_rbit_eq, rl, n7, b7, ca, h2, hf]; repeat (simp (disch := omega) only [w64_d, ipos, ineg, dpos, dneg]; try simp (config := { maxSteps := 10000000 }) only [go_sem, seval, -Int.reducePow, rpC, s_rbit_eq, rl, n7, b7, ca, h2, hf]))
        all_goals first | exact fin_same | exact ⟨⟨fun e => absurd e (by omega), fun e => absurd e (by omega)⟩, fin_same⟩ | exact ⟨fun e => absurd e (by omega), fin_same⟩ | exact ⟨by (repeat' apply And.intro) <;> (intro e; omega), fin_same⟩
      · have rx : rdX t 3#64 = false := rfl
        have rp : readP t 3#64 = (t, t.l, true) := rfl
        rw [rx, rp] at h
        simp only [Bool.false_eq_true, if_false, if_true, Option.some.injEq, Prod.mk.injEq] at h
        obtain ⟨rfl, rfl⟩ := h
        rcases sl_cases ok.hx with ⟨rfl, hA⟩ | ⟨i, v', rfl, hv, hcs⟩ <;> rcases sl_cases ok.hy with ⟨rfl, hB⟩ | ⟨i2, v2, rfl, hv2, hcs2⟩
        all_goals (try simp (config := { maxSteps := 10000000 }) only [go_sem, seval, -Int.reducePow, rpC, s_rbit_eq, rl, n7, b7]; repeat (simp (disch := omega) only [w64_d, ipos, ineg, dpos, dneg]; try simp (config := { maxSteps := 10000000 }) only [go_sem, seval, -Int.reducePow, rpC, s_rbit_eq, rl, n7, b7]))
        all_goals first | exact fin_same | exact ⟨⟨fun e => absurd e (by omega), fun e => absurd e (by omega)⟩, fin_same⟩ | exact ⟨fun e => absurd e (by omega), fin_same⟩ | exact ⟨by (repeat' apply And.intro) <;> (intro e; omega), fin_same⟩
      · have rx : rdX t 4#64 = false := rfl
        have rp : readP t 4#64 = (t, t.m, true) := rfl
        rw [rx, rp] at h
        simp only [Bool.false_eq_true, if_false, if_true, Option.some.injEq, Prod.mk.injEq] at h
        obtain ⟨rfl, rfl⟩ := h
        rcases sl_cases ok.hx with ⟨rfl, hA⟩ | ⟨i, v', rfl, hv, hcs⟩ <;> rcases sl_cases ok.hy with ⟨rfl, hB⟩ | ⟨i2, v2, rfl, hv2, hcs2⟩
        all_goals (try simp (config := { maxSteps := 10000000 }) only [go_sem, seval, -Int.reducePow, rpC, s_rbit_eq, rl, n7, b7]; repeat (simp (disch := omega) only [w64_d, ipos, ineg, dpos, dneg]; try simp (config := { maxSteps := 10000000 }) only [go_sem, seval, -Int.reducePow, rpC, s_rbit_eq, rl, n7, b7]))
        all_goals first | exact fin_same | exact ⟨⟨fun e => absurd e (by omega), fun e => absurd e (by omega)⟩, fin_same⟩ | exact ⟨fun e => absurd e (by omega), fin_same⟩ | exact ⟨by (repeat' apply And.intro) <;> (intro e; omega), fin_same⟩
      · have rx : rdX t 5#64 = false := rfl
        have rp : readP t 5#64 = ({ t with lo := false }, stateT t.lo t.A.length, true) := rfl
        rw [rx, rp, ss] at h
        by_cases hz : 0 < t.A.length <;> cases hf : t.lo
        all_goals simp only [hz, hf, Bool.false_eq_true, if_false, if_true, Option.some.injEq, Prod.mk.injEq] at h
        all_goals obtain ⟨rfl, rfl⟩ := h
        all_goals have hz2 : ((0 : Int) < (t.A.length : Int)) = (0 < t.A.length) := by apply propext; omega
        all_goals rcases sl_cases ok.hx with ⟨rfl, hA⟩ | ⟨i, v', rfl, hv, hcs⟩
        all_goals first
          | (rw [hA] at hz; simp at hz; done)
          | skip
        all_goals rcases sl_cases ok.hy with ⟨rfl, hB⟩ | ⟨i2, v2, rfl, hv2, hcs2⟩
        all_goals (try simp (config := { maxSteps := 10000000 }) only [go_sem, seval, -Int.reducePow, rpC, s_rbit_eq, rl, n7, b7, hz, hz2, hf]; repeat (simp (disch := omega) only [w64_d, ipos, ineg, dpos, dneg]; try simp (config := { maxSteps := 10000000 }) only [go_sem, seval, -Int.reducePow, rpC, s_rbit_eq, rl, n7, b7, hz, hz2, hf]))
        all_goals first | exact fin_same | exact ⟨⟨fun e => absurd e (by omega), fun e => absurd e (by omega)⟩, fin_same⟩ | exact ⟨fun e => absurd e (by omega), fin_same⟩ | exact ⟨by (repeat' apply And.intro) <;> (intro e; omega), fin_same⟩
      · have rx : rdX t 6#64 = false := rfl
        have rp : readP t 6#64 = (t, modemT t.m, true) := rfl
        rw [rx, rp] at h
        simp only [Bool.false_eq_true, if_false, if_true, Option.some.injEq, Prod.mk.injEq] at h
        obtain ⟨rfl, rfl⟩ := h
        by_cases h16 : an8 t.m 16 = 0
        · have m0 : modemT t.m = 176 := if_pos h16
          rw [m0]
          rcases sl_cases ok.hx with ⟨rfl, hA⟩ | ⟨i, v', rfl, hv, hcs⟩ <;> rcases sl_cases ok.hy with ⟨rfl, hB⟩ | ⟨i2, v2, rfl, hv2, hcs2⟩
          all_goals (try simp (config := { maxSteps := 10000000 }) only [go_sem, seval, -Int.reducePow, rpC, s_rbit_eq, rl, rm, n7, n4, b7, b4, h16]; repeat (simp (disch := omega) only [w64_d, ipos, ineg, dpos, dneg]; try simp (config := { maxSteps := 10000000 }) only [go_sem, seval, -Int.reducePow, rpC, s_rbit_eq, rl, rm, n7, n4, b7, b4, h16]))
          all_goals first | exact fin_same | exact ⟨⟨fun e => absurd e (by omega), fun e => absurd e (by omega)⟩, fin_same⟩ | exact ⟨fun e => absurd e (by omega), fin_same⟩ | exact ⟨by (repeat' apply And.intro) <;> (intro e; omega), fin_same⟩
        · have md := mdm ok.m h16
          have q : ∀ k : Nat, 0 ≤ t.m / 2 ^ k % 2 ∧ t.m / 2 ^ k % 2 ≤ 1 := fun k => by omega
          obtain ⟨q1, q1'⟩ := q 1
          obtain ⟨q0, q0'⟩ := q 0
          obtain ⟨q2, q2'⟩ := q 2
          obtain ⟨q3, q3'⟩ := q 3
          rw [← md]
          generalize hq1 : t.m / 2 ^ 1 % 2 = p1 at *
          generalize hq0 : t.m / 2 ^ 0 % 2 = p0 at *
          generalize hq2 : t.m / 2 ^ 2 % 2 = p2 at *
          generalize hq3 : t.m / 2 ^ 3 % 2 = p3 at *
          rcases sl_cases ok.hx with ⟨rfl, hA⟩ | ⟨i, v', rfl, hv, hcs⟩ <;> rcases sl_cases ok.hy with ⟨rfl, hB⟩ | ⟨i2, v2, rfl, hv2, hcs2⟩
          all_goals (try simp (config := { maxSteps := 10000000 }) only [go_sem, seval, -Int.reducePow, rpC, s_rbit_eq, rl, rm, n7, n4, n3, n2, n1, n0, b7, b4, h16, hq1, hq0, hq2, hq3]; repeat (simp (disch := omega) only [w64_d, ipos, ineg, dpos, dneg]; try simp (config := { maxSteps := 10000000 }) only [go_sem, seval, -Int.reducePow, rpC, s_rbit_eq, rl, rm, n7, n4, n3, n2, n1, n0, b7, b4, h16, hq1, hq0, hq2, hq3]))
          all_goals first | exact fin_same | exact ⟨⟨fun e => absurd e (by omega), fun e => absurd e (by omega)⟩, fin_same⟩ | exact ⟨fun e => absurd e (by omega), fin_same⟩ | exact ⟨by (repeat' apply And.intro) <;> (intro e; omega), fin_same⟩
      · have rx : rdX t 7#64 = false := rfl
        have rp : readP t 7#64 = (t, t.s, true) := rfl
        rw [rx, rp] at h
        simp only [Bool.false_eq_true, if_false, if_true, Option.some.injEq, Prod.mk.injEq] at h
        obtain ⟨rfl, rfl⟩ := h
        rcases sl_cases ok.hx with ⟨rfl, hA⟩ | ⟨i, v', rfl, hv, hcs⟩ <;> rcases sl_cases ok.hy with ⟨rfl, hB⟩ | ⟨i2, v2, rfl, hv2, hcs2⟩
        all_goals (try simp (config := { maxSteps := 10000000 }) only [go_sem, seval, -Int.reducePow, rpC, s_rbit_eq, rl, n7, b7]; repeat (simp (disch := omega) only [w64_d, ipos, ineg, dpos, dneg]; try simp (config := { maxSteps := 10000000 }) only [go_sem, seval, -Int.reducePow, rpC, s_rbit_eq, rl, n7, b7]))
        all_goals first | exact fin_same | exact ⟨⟨fun e => absurd e (by omega), fun e => absurd e (by omega)⟩, fin_same⟩ | exact ⟨fun e => absurd e (by omega), fin_same⟩ | exact ⟨by (repeat' apply And.intro) <;> (intro e; omega), fin_same⟩
    · simp at h
  · simp at h
end
end Go.Proofs.Ytfddaaplnnlfoaa
