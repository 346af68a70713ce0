/- Layer 17: the document's port, written: contracts. -/
import Derived.Test.YtfddaaplnnlfoaaU13
namespace Go.Proofs.Ytfddaaplnnlfoaa
open Go.Am
set_option linter.unusedSimpArgs false
set_option linter.unusedVariables false
noncomputable section

/-- the document's port out of a call of come, behind the objects that a call makes ahead of it -/
theorem come_X {H : AH} {t : Pt} {x y : Sc} {b : Int} (ok : RpOk H t x y) (hb : by8 b) (bx : x.bel H.length = true) (bY : y.bel H.length = true) (P Q : AObj) :
    ∃ x' X, s_rcome [.g (rpC t x y), .c (.i b)] (H ++ [P, Q]) = some (.t [.g (rpC (comeP t b).1 x' y), .c (.b (comeP t b).2)], H ++ (P :: Q :: X)) ∧ (x' = x ∨ ∃ i v n, x' = .sl i 0 v n ∧ H.length ≤ i) ∧
      slD 1 dc8 (H ++ (P :: Q :: X)) x' = some (comeP t b).1.A ∧ Sc.one x' = true ∧ x'.bel (H ++ (P :: Q :: X)).length = true := by
  have ok' := rp_app (X := [P, Q]) ok bx bY
  have lH : (H ++ [P, Q]).length = H.length + 2 := by simp
  by_cases hr : roomP t ≤ t.A.length
  · have e : comeP t b = ({ t with lo := true }, false) := if_pos hr
    refine ⟨x, [.own (rpC { t with lo := true } x y), .own (rpC { t with lo := true } x y)], ?_, .inl rfl, ?_, sl_one ok.hx, Sc.bel_mono bx (by simp)⟩
    · simp only [s_rcome, rpD_of ok', e]
      rw [if_pos hb, if_pos trivial]
      simp
    · rw [e]; exact slD_app ok.hx bx
  · have e : comeP t b = ({ t with A := t.A ++ [b] }, true) := if_neg hr
    refine ⟨.sl (H.length + 4) 0 (t.A.length + 1) (t.A.length + 1), [.own (rpC { t with A := t.A ++ [b] } (.sl (H.length + 4) 0 (t.A.length + 1) (t.A.length + 1)) y), .own (rpC { t with A := t.A ++ [b] } (.sl (H.length + 4) 0 (t.A.length + 1) (t.A.length + 1)) y), .vec 1 (t.A.flatMap enc8 ++ [.k .u8 b]), .vec 1 [.k .u8 b]], ?_, .inr ⟨_, _, _, rfl, by omega⟩, ?_, rfl, by simp [Sc.bel]⟩
    · simp only [s_rcome, rpD_of ok', e]
      rw [if_pos hb, if_neg (by simp), lH]
      simp
    · rw [e]
      have g : ∀ P Q R S V W : AObj, hg (H ++ [P, Q, R, S, V, W]) (H.length + 4) = V := fun P Q R S V W => by simp [hg, List.getD_eq_getElem?_getD]
      refine slD_of enc8_l dc8_e (L := t.A ++ [b]) ?_ (by simp) ?_
      · rw [g]; simp only [AObj.row, List.length_append, e8_len, List.length_cons, List.length_nil]
      · rw [g, fm_app]; rfl
def s_rinput (args : List AV) (H : AH) : Option (AV × AH) :=
  match args with
  | [.g c, .c (.i b)] =>
    match rpD H c with
    | some (t, x, y) =>
      if by8 b then
        (if an8 t.m 16 = 0 then
          match s_rcome [.g c, .c (.i b)] (H ++ [.own c, .own (rpC pt0 .nils .nils)]) with
          | some (.t [.g c', .c (.b q)], K) => some (.t [.g c', .c (.b q)], K.set (H.length + 1) (.own c'))
          | _ => none
        else some (.t [.g c, .c (.b false)], H ++ [.own c, .own c]))
      else none
    | none => none
  | _ => none
theorem len_rinput (args : List AV) (H : AH) (v : AV) (H1 : AH) (h : s_rinput args H = some (v, H1)) : H.length ≤ H1.length := by
  unfold s_rinput at h
  repeat' split at h
  all_goals simp at h
  · rename_i hc
    have := len_rcome _ _ _ _ hc
    rw [← h.2]; simp at this ⊢; omega
  · rw [← h.2]; simp
set_option maxHeartbeats 4000000 in
set_option maxRecDepth 100000 in
set_option maxHeartbeats 2000000 in
theorem ok_rinput : FpOk Try.prog 53 s_rinput := by
  refine fp_ok (s := s_rinput) (tab := [(78, .pu s_rbit), (80, .fp s_rcome)]) hmix (TabOk.cons (e := .pu s_rbit) ok_rbit (TabOk.cons (e := .fp s_rcome) ok_rcome TabOk.nil)) Try.func53 rfl Try.results53 Try.ntmps53 (by kernel_rfl) (by kernel_rfl) len_rinput ?_
  intro args H v H1 h hargs hH
  unfold s_rinput at h
  split at h
  · rename_i c b
    split at h
    · rename_i t x y hr
      obtain ⟨rfl, ok⟩ := rpD_inv hr
      split at h
      · rename_i hb
        refine ⟨by simp only [List.length_cons, List.length_nil]; decide, ?_⟩
        have hargs' : (rpC t x y).all (Sc.bel H.length) = true := by simp only [List.all_cons, AV.bel, Bool.and_eq_true] at hargs; exact hargs.1
        obtain ⟨bx, bY⟩ := rp_bel hargs'
        have b4 := bq4 ok.m
        have rm : 0 ≤ t.m ∧ t.m ≤ 255 := ok.m
        have n4 : (4 : Int).toNat = 4 := rfl
        split at h
        · rename_i hm
          obtain ⟨x', X, e1, e2, e3, e4⟩ := come_X ok hb bx bY (.own (rpC t x y)) (.own (rpC pt0 .nils .nils))
          rw [e1] at h
          simp only [Option.some.injEq, Prod.mk.injEq] at h
          obtain ⟨rfl, rfl⟩ := h
          have ox := sl_one ok.hx
          simp only [rpC, pt0] at e1
          have sx : x' = .nils ∨ ∃ i v n, x' = .sl i 0 v n := by
            rcases sl_cases e3 with ⟨rfl, _⟩ | ⟨i, v, rfl, _, _⟩
            · exact .inl rfl
            · exact .inr ⟨_, _, _, rfl⟩
          rcases sl_cases ok.hx with ⟨rfl, hA⟩ | ⟨i, v', rfl, hv, hcs⟩ <;> rcases sl_cases ok.hy with ⟨rfl, hB⟩ | ⟨i2, v2, rfl, hv2, hcs2⟩ <;> rcases sx with rfl | ⟨i3, v3, n3, rfl⟩
          all_goals (try simp (config := { maxSteps := 10000000 }) only [go_sem, seval, -Int.reducePow, rpC, s_rbit_eq, rm, n4, b4, hm, e1]; repeat (simp (disch := omega) only [w64_d, ipos, ineg, dpos, dneg]; try simp (config := { maxSteps := 10000000 }) only [go_sem, seval, -Int.reducePow, rpC, s_rbit_eq, rm, n4, b4, hm, e1]))
          all_goals first | exact fin_same
        · rename_i hm
          simp only [Option.some.injEq, Prod.mk.injEq] at h
          obtain ⟨rfl, rfl⟩ := h
          rcases sl_cases ok.hx with ⟨rfl, hA⟩ | ⟨i, v', rfl, hv, hcs⟩ <;> rcases sl_cases ok.hy with ⟨rfl, hB⟩ | ⟨i2, v2, rfl, hv2, hcs2⟩
          all_goals (try simp (config := { maxSteps := 10000000 }) only [go_sem, seval, -Int.reducePow, rpC, s_rbit_eq, rm, n4, b4, hm]; repeat (simp (disch := omega) only [w64_d, ipos, ineg, dpos, dneg]; try simp (config := { maxSteps := 10000000 }) only [go_sem, seval, -Int.reducePow, rpC, s_rbit_eq, rm, n4, b4, hm]))
          all_goals first | exact fin_same
      · simp at h
    · simp at h
  · simp at h
end
end Go.Proofs.Ytfddaaplnnlfoaa
