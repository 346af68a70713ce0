/- Layer 17: the document's port, that changes: contracts. -/
import Derived.Test.YtfddaaplnnlfoaaU11
namespace Go.Proofs.Ytfddaaplnnlfoaa
open Go.Am
set_option linter.unusedSimpArgs false
set_option linter.unusedVariables false
noncomputable section

/-- a slice's bytes, as what is appended -/
theorem sl_src {H : AH} {x : Sc} {A : List Int} (h : slD 1 dc8 H x = some A) (hb : x.bel H.length = true) (X : AH) : srcA (H ++ X) 1 (.c x) = some (A.flatMap enc8, A.length) := by
  rcases sl_cases h with ⟨rfl, rfl⟩ | ⟨i, v, rfl, hv, hc⟩
  · rfl
  · have li : i < H.length := by simpa [Sc.bel] using hb
    have e : (A.flatMap enc8).take A.length = A.flatMap enc8 := List.take_of_length_le (by rw [e8_len]; exact Nat.le_refl _)
    simp only [srcA, hg_app li, hc, e8_len, Nat.mul_one, List.drop_zero, e]
    rw [if_pos ⟨hv, by omega⟩]
theorem rp_bel {H : AH} {t : Pt} {x y : Sc} (h : (rpC t x y).all (Sc.bel H.length) = true) : x.bel H.length = true ∧ y.bel H.length = true := by
  simp only [rpC, List.all_cons, List.all_nil, Bool.and_true, Bool.and_eq_true] at h
  exact ⟨h.2.2.2.2.2.2.2.2.2.1, h.2.2.2.2.2.2.2.2.2.2⟩
theorem rpC_bel {t : Pt} {x y : Sc} {n : Nat} (hx : x.bel n = true) (hy : y.bel n = true) : (rpC t x y).all (Sc.bel n) = true := by
  simp only [rpC, List.all_cons, List.all_nil, Bool.and_true, Bool.and_eq_true]
  exact ⟨rfl, rfl, rfl, rfl, rfl, rfl, rfl, rfl, rfl, hx, hy⟩
theorem w8 {b : Int} (h : by8 b) : IntKind.u8.wrap b = b := by
  unfold by8 at h
  simp only [IntKind.wrap, IntKind.bits, IntKind.signed, Bool.false_and]
  simp; omega
def s_rcome (args : List AV) (H : AH) : Option (AV × AH) :=
  match args with
  | [.g c, .c (.i b)] =>
    match rpD H c with
    | some (t, x, y) =>
      if by8 b then
        (if (comeP t b).2 = false then some (.t [.g (rpC (comeP t b).1 x y), .c (.b false)], H ++ [.own (rpC (comeP t b).1 x y), .own (rpC (comeP t b).1 x y)])
        else some (.t [.g (rpC (comeP t b).1 (.sl (H.length + 2) 0 (t.A.length + 1) (t.A.length + 1)) y), .c (.b true)], H ++ [.own (rpC (comeP t b).1 (.sl (H.length + 2) 0 (t.A.length + 1) (t.A.length + 1)) y), .own (rpC (comeP t b).1 (.sl (H.length + 2) 0 (t.A.length + 1) (t.A.length + 1)) y), .vec 1 (t.A.flatMap enc8 ++ [.k .u8 b]), .vec 1 [.k .u8 b]]))
      else none
    | none => none
  | _ => none
theorem len_rcome (args : List AV) (H : AH) (v : AV) (H1 : AH) (h : s_rcome args H = some (v, H1)) : H.length ≤ H1.length := by
  unfold s_rcome at h
  repeat' split at h
  all_goals simp at h
  all_goals rw [← h.2]; simp
set_option maxHeartbeats 4000000 in
set_option maxRecDepth 100000 in
set_option maxHeartbeats 2000000 in
theorem ok_rcome : FpOk Try.prog 80 s_rcome := by
  refine fp_ok (s := s_rcome) (tab := []) hmix TabOk.nil Try.func80 rfl Try.results80 Try.ntmps80 (by kernel_rfl) (by kernel_rfl) len_rcome ?_
  intro args H v H1 h hargs hH
  unfold s_rcome at h
  split at h
  · rename_i c b
    split at h
    · rename_i t x y hr
      obtain ⟨rfl, ok⟩ := rpD_inv hr
      split at h
      · rename_i hb
        refine ⟨by simp only [List.length_cons, List.length_nil]; decide, ?_⟩
        have hargs' : (rpC t x y).all (Sc.bel H.length) = true := by simp only [List.all_cons, AV.bel, Bool.and_eq_true] at hargs; exact hargs.1
        obtain ⟨bx, bY⟩ := rp_bel hargs'
        have la := ok.la
        have wb := w8 hb
        have one := e8_one t.A
        have len := e8_len t.A
        have tk : (t.A.flatMap enc8).take t.A.length = t.A.flatMap enc8 := List.take_of_length_le (by rw [e8_len]; exact Nat.le_refl _)
        have el : (t.A ++ [b]).flatMap enc8 = t.A.flatMap enc8 ++ [.k .u8 b] := by rw [fm_app]; rfl
        have lim : t.A.length ≤ 1099511627775 := by omega
        have lim2 : t.A.length ≤ 1099511627776 := by omega
        rcases sl_cases ok.hx with ⟨rfl, hA⟩ | ⟨i, v', rfl, hv, hcs⟩ <;> rcases sl_cases ok.hy with ⟨rfl, hB⟩ | ⟨i2, v2, rfl, hv2, hcs2⟩
        all_goals first
          | (have li : i < H.length := (by simpa [Sc.bel] using bx); have gi : ∀ X, hg (H ++ X) i = hg H i := (fun X => hg_app li); have hv := hv.symm)
          | (have li : True := trivial; have gi : True := trivial; have hv : True := trivial; have hcs : True := trivial)
        all_goals cases hf : t.ff
        all_goals by_cases hr2 : roomP t ≤ t.A.length
        all_goals unfold comeP at h
        all_goals simp only [hr2, if_true, if_false, Bool.true_eq_false] at h
        all_goals simp only [Option.some.injEq, Prod.mk.injEq] at h
        all_goals obtain ⟨rfl, rfl⟩ := h
        all_goals unfold roomP at hr2
        all_goals simp only [hf, if_true, Bool.false_eq_true, if_false] at hr2
        all_goals first
          | (simp only [hA, List.length_nil] at hr2 one len tk el; omega)
          | skip
        all_goals first
          | (rw [hA] at el ⊢; (try simp (config := { maxSteps := 10000000 }) only [go_sem, seval, rpC, hf, wb, hr2, List.length_nil, List.flatMap_nil]; repeat (simp (disch := omega) only [w64_d, ipos, ineg, dpos, dneg]; try simp (config := { maxSteps := 10000000 }) only [go_sem, seval, rpC, hf, wb, hr2, List.length_nil, List.flatMap_nil])))
          | (try simp (config := { maxSteps := 10000000 }) only [go_sem, seval, rpC, hf, wb, one, len, el, gi, hv, hcs, tk, hr2, lim, lim2]; repeat (simp (disch := omega) only [w64_d, ipos, ineg, dpos, dneg]; try simp (config := { maxSteps := 10000000 }) only [go_sem, seval, rpC, hf, wb, one, len, el, gi, hv, hcs, tk, hr2, lim, lim2]))
        all_goals first | exact fin_same
      · simp at h
    · simp at h
  · simp at h
end
end Go.Proofs.Ytfddaaplnnlfoaa
