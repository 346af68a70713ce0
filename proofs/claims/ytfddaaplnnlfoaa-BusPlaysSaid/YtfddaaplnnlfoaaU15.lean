/- Layer 17: the document's port, written (printed by gu15.py): contracts. -/
import Derived.Test.YtfddaaplnnlfoaaU14
namespace Go.Proofs.Ytfddaaplnnlfoaa
open Go.Am
set_option linter.unusedSimpArgs false
set_option linter.unusedVariables false
noncomputable section

def qKeep (t : Pt) (b : Int) : Bool := (decide (¬ an8 b 1 = 0) == t.ff) && decide (an8 b 2 = 0)
def s_rwrite (args : List AV) (H : AH) : Option (AV × AH) :=
  match args with
  | [.g c, .c (.u off), .c (.i b)] =>
    match rpD H c with
    | some (t, x, y) =>
      if by8 b then
        (if off = 0#64 ∧ an8 t.l 128 = 0 then
          (if an8 t.m 16 = 0 then
            some (.t [.g (rpC (writeP t off b).1 x (.sl (H.length + 2) 0 (t.B.length + 1) (t.B.length + 1))), .c (.b true)],
              H ++ [.own (rpC (writeP t off b).1 x (.sl (H.length + 2) 0 (t.B.length + 1) (t.B.length + 1))), .own (rpC (writeP t off b).1 x (.sl (H.length + 2) 0 (t.B.length + 1) (t.B.length + 1))), .vec 1 (t.B.flatMap enc8 ++ [.k .u8 b]), .vec 1 [.k .u8 b]])
          else
            match s_rcome [.g c, .c (.i b)] (H ++ [.own c, .own (rpC pt0 .nils .nils)]) with
            | some (.t [.g c', .c (.b _)], K) => some (.t [.g (c'.set 8 (.b true)), .c (.b true)], ((K ++ [AObj.own c']).set H.length (.own (c'.set 8 (.b true)))).set (H.length + 1) (.own (c'.set 8 (.b true))))
            | _ => none)
        else if off = 2#64 ∧ qKeep t b = false then some (.t [.g (rpC (writeP t off b).1 .nils y), .c (.b true)], H ++ [.own (rpC (writeP t off b).1 .nils y), .own (rpC (writeP t off b).1 .nils y)])
        else some (.t [.g (rpC (writeP t off b).1 x y), .c (.b (writeP t off b).2)], H ++ [.own (rpC (writeP t off b).1 x y), .own (rpC (writeP t off b).1 x y)]))
      else none
    | none => none
  | _ => none
theorem len_rwrite (args : List AV) (H : AH) (v : AV) (H1 : AH) (h : s_rwrite args H = some (v, H1)) : H.length ≤ H1.length := by
  unfold s_rwrite at h
  repeat' split at h
  all_goals simp at h
  all_goals rw [← h.2]
  all_goals first
    | (simp; done)
    | (rename_i hc
       have := len_rcome _ _ _ _ hc
       simp at this ⊢; omega)
set_option maxHeartbeats 8000000 in
set_option maxRecDepth 100000 in
set_option maxHeartbeats 2000000 in
theorem ok_rwrite : FpOk Try.prog 50 s_rwrite := by
  refine fp_ok (s := s_rwrite) (tab := [(78, .pu s_rbit), (80, .fp s_rcome)]) hmix (TabOk.cons (e := .pu s_rbit) ok_rbit (TabOk.cons (e := .fp s_rcome) ok_rcome TabOk.nil)) Try.func50 rfl Try.results50 Try.ntmps50 (by kernel_rfl) (by kernel_rfl) len_rwrite ?_
  intro args H v H1 h hargs hH
  unfold s_rwrite at h
  split at h
  · rename_i c off b
    split at h
    · rename_i t x y hr
      obtain ⟨rfl, ok⟩ := rpD_inv hr
      split at h
      · rename_i hb
        refine ⟨by simp only [List.length_cons, List.length_nil]; decide, ?_⟩
        have hargs' : (rpC t x y).all (Sc.bel H.length) = true := by simp only [List.all_cons, AV.bel, Bool.and_eq_true] at hargs; exact hargs.1
        obtain ⟨bx, bY⟩ := rp_bel hargs'
        have b7 := bq7 ok.l
        have b4 := bq4 ok.m
        have bb1 := bq1 hb
        have be1 := bz1 ok.e
        have b16 := m16 hb
        have b32 := m32 hb
        have b2q := m2q hb
        have wb := w8 hb
        have rb : 0 ≤ b ∧ b ≤ 255 := hb
        have re : 0 ≤ t.e ∧ t.e ≤ 255 := ok.e
        have rm : 0 ≤ t.m ∧ t.m ≤ 255 := ok.m
        have rl : 0 ≤ t.l ∧ t.l ≤ 255 := ok.l
        have n7 : (7 : Int).toNat = 7 := rfl
        have n4 : (4 : Int).toNat = 4 := rfl
        have n1 : (1 : Int).toNat = 1 := rfl
        rcases off8 off with h7 | rfl | rfl | rfl | rfl | rfl | rfl | rfl | rfl
        · have e0 : (off = 0#64) = False := eq_false fun e => by rw [e] at h7; exact absurd h7 (by decide)
          have e1 : (off = 1#64) = False := eq_false fun e => by rw [e] at h7; exact absurd h7 (by decide)
          have e2 : (off = 2#64) = False := eq_false fun e => by rw [e] at h7; exact absurd h7 (by decide)
          have e3 : (off = 3#64) = False := eq_false fun e => by rw [e] at h7; exact absurd h7 (by decide)
          have e4 : (off = 4#64) = False := eq_false fun e => by rw [e] at h7; exact absurd h7 (by decide)
          have e5 : (off = 5#64) = False := eq_false fun e => by rw [e] at h7; exact absurd h7 (by decide)
          have e6 : (off = 6#64) = False := eq_false fun e => by rw [e] at h7; exact absurd h7 (by decide)
          have e7 : (off = 7#64) = False := eq_false fun e => by rw [e] at h7; exact absurd h7 (by decide)
          have wp : writeP t off b = (t, false) := if_pos h7
          rw [if_neg (by rw [e0]; simp), if_neg (by rw [e2]; simp), wp] at h
          simp only [Option.some.injEq, Prod.mk.injEq] at h
          obtain ⟨rfl, rfl⟩ := h
          rcases sl_cases ok.hx with ⟨rfl, hA⟩ | ⟨i, v', rfl, hv, hcs⟩ <;> rcases sl_cases ok.hy with ⟨rfl, hB⟩ | ⟨i2, v2, rfl, hv2, hcs2⟩
          all_goals (try simp (config := { maxSteps := 10000000 }) only [go_sem, seval, -Int.reducePow, rpC, s_rbit_eq, rl, n7, b7, e0, e1, e2, e3, e4, e5, e6, e7]; repeat (simp (disch := omega) only [w64_d, ipos, ineg, dpos, dneg]; try simp (config := { maxSteps := 10000000 }) only [go_sem, seval, -Int.reducePow, rpC, s_rbit_eq, rl, n7, b7, e0, e1, e2, e3, e4, e5, e6, e7]))
          all_goals first | exact fin_same | exact ⟨⟨fun e => absurd e (by omega), fun e => absurd e (by omega)⟩, fin_same⟩ | exact ⟨fun e => absurd e (by omega), fin_same⟩ | exact ⟨by (repeat' apply And.intro) <;> (intro e; omega), fin_same⟩
        · by_cases hl : an8 t.l 128 = 0
          rotate_left
          · have wp : writeP t 0#64 b = ({ t with dl := b }, true) := by unfold writeP; rw [if_neg (by decide), if_neg (by simp [hl]), if_neg (by decide), if_neg (by decide)]; rfl
            rw [if_neg (by simp [hl]), if_neg (by simp), wp] at h
            simp only [Option.some.injEq, Prod.mk.injEq] at h
            obtain ⟨rfl, rfl⟩ := h
            rcases sl_cases ok.hx with ⟨rfl, hA⟩ | ⟨i, v', rfl, hv, hcs⟩ <;> rcases sl_cases ok.hy with ⟨rfl, hB⟩ | ⟨i2, v2, rfl, hv2, hcs2⟩
            all_goals (try simp (config := { maxSteps := 10000000 }) only [go_sem, seval, -Int.reducePow, rpC, s_rbit_eq, rl, n7, b7, hl]; repeat (simp (disch := omega) only [w64_d, ipos, ineg, dpos, dneg]; try simp (config := { maxSteps := 10000000 }) only [go_sem, seval, -Int.reducePow, rpC, s_rbit_eq, rl, n7, b7, hl]))
            all_goals first | exact fin_same | exact ⟨⟨fun e => absurd e (by omega), fun e => absurd e (by omega)⟩, fin_same⟩ | exact ⟨fun e => absurd e (by omega), fin_same⟩ | exact ⟨by (repeat' apply And.intro) <;> (intro e; omega), fin_same⟩
          rw [if_pos ⟨rfl, hl⟩] at h
          have wp : writeP t 0#64 b = (sendP t b, true) := by unfold writeP; rw [if_neg (by decide), if_pos ⟨rfl, hl⟩]
          rw [wp] at h
          by_cases hm : an8 t.m 16 = 0
          · rw [if_pos hm] at h
            have sp : sendP t b = { t with B := t.B ++ [b], em := true } := if_pos hm
            rw [sp] at h
            simp only [Option.some.injEq, Prod.mk.injEq] at h
            obtain ⟨rfl, rfl⟩ := h
            have lb := ok.lb
            have one := e8_one t.B
            have len := e8_len t.B
            have tk : (t.B.flatMap enc8).take t.B.length = t.B.flatMap enc8 := List.take_of_length_le (by rw [e8_len]; exact Nat.le_refl _)
            have lim : t.B.length ≤ 1099511627775 := by omega
            have lim2 : t.B.length ≤ 1099511627776 := by omega
            rcases sl_cases ok.hy with ⟨rfl, hB⟩ | ⟨i2, v2, rfl, hv2, hcs2⟩
            · rw [hB]
              rcases sl_cases ok.hx with ⟨rfl, hA⟩ | ⟨i, v', rfl, hv, hcs⟩
              all_goals (try simp (config := { maxSteps := 10000000 }) only [go_sem, seval, -Int.reducePow, rpC, s_rbit_eq, rl, rm, n7, n4, b7, b4, hl, hm, wb, List.length_nil, List.flatMap_nil]; repeat (simp (disch := omega) only [w64_d, ipos, ineg, dpos, dneg]; try simp (config := { maxSteps := 10000000 }) only [go_sem, seval, -Int.reducePow, rpC, s_rbit_eq, rl, rm, n7, n4, b7, b4, hl, hm, wb, List.length_nil, List.flatMap_nil]))
              all_goals first | exact fin_same | exact ⟨⟨fun e => absurd e (by omega), fun e => absurd e (by omega)⟩, fin_same⟩ | exact ⟨fun e => absurd e (by omega), fin_same⟩ | exact ⟨by (repeat' apply And.intro) <;> (intro e; omega), fin_same⟩
            · have li : i2 < H.length := by simpa [Sc.bel] using bY
              have gi : ∀ X, hg (H ++ X) i2 = hg H i2 := fun X => hg_app li
              have hv2 := hv2.symm
              rcases sl_cases ok.hx with ⟨rfl, hA⟩ | ⟨i, v', rfl, hv, hcs⟩
              all_goals (try simp (config := { maxSteps := 10000000 }) only [go_sem, seval, -Int.reducePow, rpC, s_rbit_eq, rl, rm, n7, n4, b7, b4, hl, hm, wb, one, len, gi, hv2, hcs2, tk, lim, lim2]; repeat (simp (disch := omega) only [w64_d, ipos, ineg, dpos, dneg]; try simp (config := { maxSteps := 10000000 }) only [go_sem, seval, -Int.reducePow, rpC, s_rbit_eq, rl, rm, n7, n4, b7, b4, hl, hm, wb, one, len, gi, hv2, hcs2, tk, lim, lim2]))
              all_goals first | exact fin_same | exact ⟨⟨fun e => absurd e (by omega), fun e => absurd e (by omega)⟩, fin_same⟩ | exact ⟨fun e => absurd e (by omega), fin_same⟩ | exact ⟨by (repeat' apply And.intro) <;> (intro e; omega), fin_same⟩
          · rw [if_neg hm] at h
            obtain ⟨x', X, e1, e2, e3, e4⟩ := come_X ok hb bx bY (.own (rpC t x y)) (.own (rpC pt0 .nils .nils))
            have hs : ∀ P Q R c : AObj, (((H ++ (P :: Q :: X)) ++ [R]).set H.length c).set (H.length + 1) c = H ++ (c :: c :: (X ++ [R])) := fun P Q R c => by simp [List.set_append]
            rw [e1] at h
            simp only [hs, Option.some.injEq, Prod.mk.injEq] at h
            obtain ⟨rfl, rfl⟩ := h
            simp only [rpC, pt0] at e1
            have sx : x' = .nils ∨ ∃ i v n, x' = .sl i 0 v n := by
              rcases sl_cases e3 with ⟨rfl, _⟩ | ⟨i, v, rfl, _, _⟩
              · exact .inl rfl
              · exact .inr ⟨_, _, _, rfl⟩
            rcases sl_cases ok.hx with ⟨rfl, hA⟩ | ⟨i, v', rfl, hv, hcs⟩ <;> rcases sl_cases ok.hy with ⟨rfl, hB⟩ | ⟨i2, v2, rfl, hv2, hcs2⟩ <;> rcases sx with rfl | ⟨i3, v3, n3, rfl⟩
            all_goals (try simp (config := { maxSteps := 10000000 }) only [go_sem, seval, -Int.reducePow, rpC, s_rbit_eq, rl, rm, n7, n4, b7, b4, hl, hm, e1]; repeat (simp (disch := omega) only [w64_d, ipos, ineg, dpos, dneg]; try simp (config := { maxSteps := 10000000 }) only [go_sem, seval, -Int.reducePow, rpC, s_rbit_eq, rl, rm, n7, n4, b7, b4, hl, hm, e1]))
            all_goals first | exact fin_same | exact ⟨⟨fun e => absurd e (by omega), fun e => absurd e (by omega)⟩, fin_same⟩ | exact ⟨fun e => absurd e (by omega), fin_same⟩ | exact ⟨by (repeat' apply And.intro) <;> (intro e; omega), fin_same⟩
        · rw [if_neg (by simp), if_neg (by simp)] at h
          by_cases hl : an8 t.l 128 = 0
          · have wp : writeP t 1#64 b = ({ t with em := t.em || (decide (¬ an8 b 2 = 0) && decide (an8 t.e 2 = 0)), e := an8 b 15 }, true) := by
              have : writeP t 1#64 b = (wrT t 1#64 b, true) := rfl
              rw [this]; unfold wrT; rw [if_neg (by decide), if_pos rfl, if_pos hl]
            rw [wp] at h
            simp only [Option.some.injEq, Prod.mk.injEq] at h
            obtain ⟨rfl, rfl⟩ := h
            by_cases h2 : an8 b 2 = 0 <;> by_cases h3 : an8 t.e 2 = 0 <;> cases hem : t.em
            all_goals rcases sl_cases ok.hx with ⟨rfl, hA⟩ | ⟨i, v', rfl, hv, hcs⟩ <;> rcases sl_cases ok.hy with ⟨rfl, hB⟩ | ⟨i2, v2, rfl, hv2, hcs2⟩
            all_goals (try simp (config := { maxSteps := 10000000 }) only [go_sem, seval, -Int.reducePow, rpC, s_rbit_eq, rl, rb, re, n7, n1, b7, bb1, be1, b16, hl, h2, h3, hem, decide_true, decide_false, not_true, not_false_eq_true, Bool.and_self, Bool.true_or, Bool.false_or, Bool.or_true, Bool.or_false, Bool.and_true, Bool.and_false]; repeat (simp (disch := omega) only [w64_d, ipos, ineg, dpos, dneg]; try simp (config := { maxSteps := 10000000 }) only [go_sem, seval, -Int.reducePow, rpC, s_rbit_eq, rl, rb, re, n7, n1, b7, bb1, be1, b16, hl, h2, h3, hem, decide_true, decide_false, not_true, not_false_eq_true, Bool.and_self, Bool.true_or, Bool.false_or, Bool.or_true, Bool.or_false, Bool.and_true, Bool.and_false]))
            all_goals first | exact fin_same | exact ⟨⟨fun e => absurd e (by omega), fun e => absurd e (by omega)⟩, fin_same⟩ | exact ⟨fun e => absurd e (by omega), fin_same⟩ | exact ⟨by (repeat' apply And.intro) <;> (intro e; omega), fin_same⟩
          · have wp : writeP t 1#64 b = ({ t with dm := b }, true) := by
              have : writeP t 1#64 b = (wrT t 1#64 b, true) := rfl
              rw [this]; unfold wrT; rw [if_neg (by decide), if_pos rfl, if_neg hl]
            rw [wp] at h
            simp only [Option.some.injEq, Prod.mk.injEq] at h
            obtain ⟨rfl, rfl⟩ := h
            rcases sl_cases ok.hx with ⟨rfl, hA⟩ | ⟨i, v', rfl, hv, hcs⟩ <;> rcases sl_cases ok.hy with ⟨rfl, hB⟩ | ⟨i2, v2, rfl, hv2, hcs2⟩
            all_goals (try simp (config := { maxSteps := 10000000 }) only [go_sem, seval, -Int.reducePow, rpC, s_rbit_eq, rl, n7, b7, hl]; repeat (simp (disch := omega) only [w64_d, ipos, ineg, dpos, dneg]; try simp (config := { maxSteps := 10000000 }) only [go_sem, seval, -Int.reducePow, rpC, s_rbit_eq, rl, n7, b7, hl]))
            all_goals first | exact fin_same | exact ⟨⟨fun e => absurd e (by omega), fun e => absurd e (by omega)⟩, fin_same⟩ | exact ⟨fun e => absurd e (by omega), fin_same⟩ | exact ⟨by (repeat' apply And.intro) <;> (intro e; omega), fin_same⟩
        · have wp : writeP t 2#64 b = (queueP t b, true) := rfl
          rw [if_neg (by simp), wp] at h
          by_cases h1 : an8 b 1 = 0 <;> by_cases h2 : an8 b 2 = 0 <;> cases hf : t.ff
          all_goals simp [queueP, qKeep, h1, h2, hf] at h
          all_goals obtain ⟨rfl, rfl⟩ := h
          all_goals rcases sl_cases ok.hx with ⟨rfl, hA⟩ | ⟨i, v', rfl, hv, hcs⟩ <;> rcases sl_cases ok.hy with ⟨rfl, hB⟩ | ⟨i2, v2, rfl, hv2, hcs2⟩
          all_goals (try simp (config := { maxSteps := 10000000 }) only [go_sem, seval, -Int.reducePow, rpC, s_rbit_eq, rl, rb, n7, n1, b7, bb1, b2q, h1, h2, hf]; repeat (simp (disch := omega) only [w64_d, ipos, ineg, dpos, dneg]; try simp (config := { maxSteps := 10000000 }) only [go_sem, seval, -Int.reducePow, rpC, s_rbit_eq, rl, rb, n7, n1, b7, bb1, b2q, h1, h2, hf]))
          all_goals first | exact fin_same | exact ⟨⟨fun e => absurd e (by omega), fun e => absurd e (by omega)⟩, fin_same⟩ | exact ⟨fun e => absurd e (by omega), fin_same⟩ | exact ⟨by (repeat' apply And.intro) <;> (intro e; omega), fin_same⟩
        · have wp : writeP t 3#64 b = ({ t with l := b }, true) := rfl
          rw [if_neg (by simp), if_neg (by simp), wp] at h
          simp only [Option.some.injEq, Prod.mk.injEq] at h
          obtain ⟨rfl, rfl⟩ := h
          rcases sl_cases ok.hx with ⟨rfl, hA⟩ | ⟨i, v', rfl, hv, hcs⟩ <;> rcases sl_cases ok.hy with ⟨rfl, hB⟩ | ⟨i2, v2, rfl, hv2, hcs2⟩
          all_goals (try simp (config := { maxSteps := 10000000 }) only [go_sem, seval, -Int.reducePow, rpC, s_rbit_eq, rl, n7, b7]; repeat (simp (disch := omega) only [w64_d, ipos, ineg, dpos, dneg]; try simp (config := { maxSteps := 10000000 }) only [go_sem, seval, -Int.reducePow, rpC, s_rbit_eq, rl, n7, b7]))
          all_goals first | exact fin_same | exact ⟨⟨fun e => absurd e (by omega), fun e => absurd e (by omega)⟩, fin_same⟩ | exact ⟨fun e => absurd e (by omega), fin_same⟩ | exact ⟨by (repeat' apply And.intro) <;> (intro e; omega), fin_same⟩
        · have wp : writeP t 4#64 b = ({ t with m := an8 b 31 }, true) := rfl
          rw [if_neg (by simp), if_neg (by simp), wp] at h
          simp only [Option.some.injEq, Prod.mk.injEq] at h
          obtain ⟨rfl, rfl⟩ := h
          rcases sl_cases ok.hx with ⟨rfl, hA⟩ | ⟨i, v', rfl, hv, hcs⟩ <;> rcases sl_cases ok.hy with ⟨rfl, hB⟩ | ⟨i2, v2, rfl, hv2, hcs2⟩
          all_goals (try simp (config := { maxSteps := 10000000 }) only [go_sem, seval, -Int.reducePow, rpC, s_rbit_eq, rl, n7, b7, b32]; repeat (simp (disch := omega) only [w64_d, ipos, ineg, dpos, dneg]; try simp (config := { maxSteps := 10000000 }) only [go_sem, seval, -Int.reducePow, rpC, s_rbit_eq, rl, n7, b7, b32]))
          all_goals first | exact fin_same | exact ⟨⟨fun e => absurd e (by omega), fun e => absurd e (by omega)⟩, fin_same⟩ | exact ⟨fun e => absurd e (by omega), fin_same⟩ | exact ⟨by (repeat' apply And.intro) <;> (intro e; omega), fin_same⟩
        · have wp : writeP t 5#64 b = (t, true) := rfl
          rw [if_neg (by simp), if_neg (by simp), wp] at h
          simp only [Option.some.injEq, Prod.mk.injEq] at h
          obtain ⟨rfl, rfl⟩ := h
          rcases sl_cases ok.hx with ⟨rfl, hA⟩ | ⟨i, v', rfl, hv, hcs⟩ <;> rcases sl_cases ok.hy with ⟨rfl, hB⟩ | ⟨i2, v2, rfl, hv2, hcs2⟩
          all_goals (try simp (config := { maxSteps := 10000000 }) only [go_sem, seval, -Int.reducePow, rpC, s_rbit_eq, rl, n7, b7]; repeat (simp (disch := omega) only [w64_d, ipos, ineg, dpos, dneg]; try simp (config := { maxSteps := 10000000 }) only [go_sem, seval, -Int.reducePow, rpC, s_rbit_eq, rl, n7, b7]))
          all_goals first | exact fin_same | exact ⟨⟨fun e => absurd e (by omega), fun e => absurd e (by omega)⟩, fin_same⟩ | exact ⟨fun e => absurd e (by omega), fin_same⟩ | exact ⟨by (repeat' apply And.intro) <;> (intro e; omega), fin_same⟩
        · have wp : writeP t 6#64 b = (t, true) := rfl
          rw [if_neg (by simp), if_neg (by simp), wp] at h
          simp only [Option.some.injEq, Prod.mk.injEq] at h
          obtain ⟨rfl, rfl⟩ := h
          rcases sl_cases ok.hx with ⟨rfl, hA⟩ | ⟨i, v', rfl, hv, hcs⟩ <;> rcases sl_cases ok.hy with ⟨rfl, hB⟩ | ⟨i2, v2, rfl, hv2, hcs2⟩
          all_goals (try simp (config := { maxSteps := 10000000 }) only [go_sem, seval, -Int.reducePow, rpC, s_rbit_eq, rl, n7, b7]; repeat (simp (disch := omega) only [w64_d, ipos, ineg, dpos, dneg]; try simp (config := { maxSteps := 10000000 }) only [go_sem, seval, -Int.reducePow, rpC, s_rbit_eq, rl, n7, b7]))
          all_goals first | exact fin_same | exact ⟨⟨fun e => absurd e (by omega), fun e => absurd e (by omega)⟩, fin_same⟩ | exact ⟨fun e => absurd e (by omega), fin_same⟩ | exact ⟨by (repeat' apply And.intro) <;> (intro e; omega), fin_same⟩
        · have wp : writeP t 7#64 b = ({ t with s := b }, true) := rfl
          rw [if_neg (by simp), if_neg (by simp), wp] at h
          simp only [Option.some.injEq, Prod.mk.injEq] at h
          obtain ⟨rfl, rfl⟩ := h
          rcases sl_cases ok.hx with ⟨rfl, hA⟩ | ⟨i, v', rfl, hv, hcs⟩ <;> rcases sl_cases ok.hy with ⟨rfl, hB⟩ | ⟨i2, v2, rfl, hv2, hcs2⟩
          all_goals (try simp (config := { maxSteps := 10000000 }) only [go_sem, seval, -Int.reducePow, rpC, s_rbit_eq, rl, n7, b7]; repeat (simp (disch := omega) only [w64_d, ipos, ineg, dpos, dneg]; try simp (config := { maxSteps := 10000000 }) only [go_sem, seval, -Int.reducePow, rpC, s_rbit_eq, rl, n7, b7]))
          all_goals first | exact fin_same | exact ⟨⟨fun e => absurd e (by omega), fun e => absurd e (by omega)⟩, fin_same⟩ | exact ⟨fun e => absurd e (by omega), fin_same⟩ | exact ⟨by (repeat' apply And.intro) <;> (intro e; omega), fin_same⟩
      · simp at h
    · simp at h
  · simp at h
end
end Go.Proofs.Ytfddaaplnnlfoaa
