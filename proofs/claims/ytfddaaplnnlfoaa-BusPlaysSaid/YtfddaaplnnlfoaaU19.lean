/- Layer 17: what a deed does to both ports: contracts. -/
import Derived.Test.YtfddaaplnnlfoaaU18
namespace Go.Proofs.Ytfddaaplnnlfoaa
open Go.Am
set_option linter.unusedSimpArgs false
set_option linter.unusedVariables false
noncomputable section

/-- a row that is the same, or a new one -/
def newR (H : AH) (x x' : Sc) : Prop := x' = x ∨ x' = .nils ∨ ∃ i v n, x' = .sl i 0 v n ∧ H.length ≤ i
theorem slD_kp {H K : AH} {x : Sc} {A : List Int} (h : slD 1 dc8 H x = some A) (hk : ∀ i, sid x = some i → hg K i = hg H i) : slD 1 dc8 K x = some A := by
  unfold slD at h ⊢
  split at h
  · exact h
  · rename_i id v n
    simp only [hk id rfl]
    exact h
  · simp at h
theorem sl_shape {H : AH} {x : Sc} {A : List Int} (h : slD 1 dc8 H x = some A) : x = .nils ∨ ∃ i v n, x = .sl i 0 v n := by
  rcases sl_cases h with ⟨rfl, _⟩ | ⟨i, v, rfl, _, _⟩
  · exact .inl rfl
  · exact .inr ⟨_, _, _, rfl⟩
structure nb (t : Pt) : Prop where
  e : by8 t.e
  l : by8 t.l
  m : by8 t.m
  s : by8 t.s
  dl : by8 t.dl
  dm : by8 t.dm
theorem RpOk.nb {H : AH} {t : Pt} {x y : Sc} (h : RpOk H t x y) : nb t := ⟨h.e, h.l, h.m, h.s, h.dl, h.dm⟩
theorem an_15 {b : Int} (h : by8 b) : by8 (an8 b 15) := by
  rw [← m16 h, Int.tmod_eq_emod_of_nonneg h.1]; unfold by8 at *; omega
theorem an_31 {b : Int} (h : by8 b) : by8 (an8 b 31) := by
  rw [← m32 h, Int.tmod_eq_emod_of_nonneg h.1]; unfold by8 at *; omega
theorem nb_come {t : Pt} {b : Int} (h : nb t) : nb (comeP t b).1 := by
  unfold comeP; split <;> exact ⟨h.e, h.l, h.m, h.s, h.dl, h.dm⟩
theorem nb_input {t : Pt} {b : Int} (h : nb t) : nb (inputP t b).1 := by
  unfold inputP; split
  · exact nb_come h
  · exact h
theorem nb_read {t : Pt} {off : BitVec 64} (h : nb t) : nb (readP t off).1 := by
  have h' : ∀ A, nb { t with A := A } := fun A => ⟨h.e, h.l, h.m, h.s, h.dl, h.dm⟩
  have h2 : nb { t with em := false } := ⟨h.e, h.l, h.m, h.s, h.dl, h.dm⟩
  have h3 : nb { t with lo := false } := ⟨h.e, h.l, h.m, h.s, h.dl, h.dm⟩
  unfold readP takeP toldP stateP
  repeat' split
  all_goals first | exact h | exact h' _ | exact h2 | exact h3
theorem nb_write {t : Pt} {off : BitVec 64} {b : Int} (h : nb t) (hb : by8 b) : nb (writeP t off b).1 := by
  have c := nb_come (b := b) h
  unfold writeP sendP queueP wrT
  repeat' split
  all_goals first
    | exact h
    | exact ⟨c.e, c.l, c.m, c.s, c.dl, c.dm⟩
    | exact ⟨an_15 hb, h.l, h.m, h.s, h.dl, h.dm⟩
    | exact ⟨h.e, hb, h.m, h.s, h.dl, h.dm⟩
    | exact ⟨h.e, h.l, an_31 hb, h.s, h.dl, h.dm⟩
    | exact ⟨h.e, h.l, h.m, hb, h.dl, h.dm⟩
    | exact ⟨h.e, h.l, h.m, h.s, hb, h.dm⟩
    | exact ⟨h.e, h.l, h.m, h.s, h.dl, hb⟩
    | exact ⟨h.e, h.l, h.m, h.s, h.dl, h.dm⟩
theorem rread_ok {K : AH} {t : Pt} {x y : Sc} (ok : RpOk K t x y) (bx : x.bel K.length = true) (off : BitVec 64) : ∃ x' X, s_rread [.g (rpC t x y), .c (.u off)] K = some (.t [.g (rpC (readP t off).1 x' y), .c (.i (readP t off).2.1), .c (.b (readP t off).2.2)], K ++ X) ∧ newR K x x' ∧
    slD 1 dc8 (K ++ X) x' = some (readP t off).1.A ∧ (readP t off).1.B = t.B ∧ x'.bel (K ++ X).length = true := by
  simp only [s_rread, rpD_of ok]
  have hB : (readP t off).1.B = t.B := by
    unfold readP takeP toldP stateP
    repeat' split
    all_goals rfl
  cases hx : rdX t off
  · have hA : (readP t off).1.A = t.A := by
      unfold rdX at hx
      unfold readP takeP toldP stateP
      repeat' split
      all_goals first
        | rfl
        | (simp_all; done)
    refine ⟨x, _, rfl, .inl rfl, ?_, hB, Sc.bel_mono bx (by simp)⟩
    rw [hA]; exact slD_app ok.hx bx
  · have hx2 : off = 0#64 ∧ an8 t.l 128 = 0 ∧ 0 < t.A.length := by unfold rdX at hx; simp at hx; exact ⟨hx.1.1, hx.1.2, hx.2⟩
    obtain ⟨rfl, h2, h3⟩ := hx2
    have hA : (readP t 0#64).1.A = t.A.tail := by
      unfold readP takeP
      rw [if_neg (by decide), if_pos rfl, if_pos h2]
      cases hh : t.A with
      | nil => rw [hh] at h3; simp at h3
      | cons a A => rfl
    refine ⟨.sl (K.length + 2) 0 (t.A.length - 1) (t.A.length - 1), _, rfl, .inr (.inr ⟨_, _, _, rfl, by omega⟩), ?_, hB, by simp [Sc.bel]⟩
    rw [hA]
    have g : ∀ P Q V : AObj, hg (K ++ [P, Q, V]) (K.length + 2) = V := fun P Q V => by simp [hg, List.getD_eq_getElem?_getD]
    refine slD_of enc8_l dc8_e (L := t.A.tail) ?_ (by simp) ?_
    · rw [g]; simp only [AObj.row, e8_len, List.length_tail]
    · rw [g]; rfl
theorem rinput_ok {K : AH} {t : Pt} {x y : Sc} (ok : RpOk K t x y) (bx : x.bel K.length = true) (bY : y.bel K.length = true) {b : Int} (hb : by8 b) : ∃ x' X, s_rinput [.g (rpC t x y), .c (.i b)] K = some (.t [.g (rpC (inputP t b).1 x' y), .c (.b (inputP t b).2)], K ++ X) ∧ newR K x x' ∧
    slD 1 dc8 (K ++ X) x' = some (inputP t b).1.A ∧ (inputP t b).1.B = t.B ∧ x'.bel (K ++ X).length = true := by
  simp only [s_rinput, rpD_of ok]
  rw [if_pos hb]
  unfold inputP
  split
  · obtain ⟨x', X, e1, e2, e3, e4⟩ := come_X ok hb bx bY (.own (rpC t x y)) (.own (rpC pt0 .nils .nils))
    have hs : ∀ P Q c : AObj, (K ++ (P :: Q :: X)).set (K.length + 1) c = K ++ (P :: c :: X) := fun P Q c => by simp [List.set_append]
    rw [e1]
    simp only [hs]
    have hB : (comeP t b).1.B = t.B := by unfold comeP; split <;> rfl
    refine ⟨x', _, rfl, ?_, ?_, hB, by simpa using e4.2⟩
    · rcases e2 with h | ⟨i, v, n, h1, h2⟩
      · exact .inl h
      · exact .inr (.inr ⟨i, v, n, h1, h2⟩)
    · refine slD_kp e3 fun i hi => ?_
      have ne : i ≠ K.length + 1 := fun e => by
        rcases e2 with h | ⟨j, v, n, h1, h2⟩
        · rw [h] at hi
          rcases sl_cases ok.hx with ⟨rfl, _⟩ | ⟨j, v, rfl, _, _⟩
          · simp [sid] at hi
          · simp only [sid, Option.some.injEq] at hi
            have : j < K.length := by simpa [Sc.bel] using bx
            omega
        · subst h1
          simp only [sid, Option.some.injEq] at hi
          rcases sl_cases e3 with ⟨h, _⟩ | ⟨j', v', h, _, hcs⟩
          · simp at h
          · simp only [Sc.sl.injEq] at h
            obtain ⟨h, _⟩ := h
            subst h
            rw [hi, e] at hcs
            have g : hg (K ++ (AObj.own (rpC t x y) :: AObj.own (rpC pt0 .nils .nils) :: X)) (K.length + 1) = .own (rpC pt0 .nils .nils) := by simp [hg, List.getD_eq_getElem?_getD]
            rw [g] at hcs
            have := e8_bel (comeP t b).1.A 0
            rw [← hcs] at this
            have l1 := congrArg (fun l => List.head? l) hcs
            simp [AObj.cells, AObj.scs, rpC] at l1
            cases hq : (comeP t b).1.A with
            | nil => rw [hq] at l1; simp at l1
            | cons a A => rw [hq] at l1; simp [enc8] at l1
      rw [← hs (.own (rpC t x y)) (.own (rpC pt0 .nils .nils)), hg_set_ne' (Ne.symm ne)]
  · exact ⟨x, _, rfl, .inl rfl, slD_app ok.hx bx, rfl, Sc.bel_mono bx (by simp)⟩
theorem rwrite_ok {K : AH} {t : Pt} {x y : Sc} (ok : RpOk K t x y) (bx : x.bel K.length = true) (bY : y.bel K.length = true) (off : BitVec 64) {b : Int} (hb : by8 b) : ∃ x' y' X, s_rwrite [.g (rpC t x y), .c (.u off), .c (.i b)] K = some (.t [.g (rpC (writeP t off b).1 x' y'), .c (.b (writeP t off b).2)], K ++ X) ∧ newR K x x' ∧ newR K y y' ∧
    slD 1 dc8 (K ++ X) x' = some (writeP t off b).1.A ∧ slD 1 dc8 (K ++ X) y' = some (writeP t off b).1.B ∧ x'.bel (K ++ X).length = true ∧ y'.bel (K ++ X).length = true := by
  simp only [s_rwrite, rpD_of ok]
  rw [if_pos hb]
  split
  · rename_i h0
    obtain ⟨rfl, hl⟩ := h0
    have wp : writeP t 0#64 b = (sendP t b, true) := by unfold writeP; rw [if_neg (by decide), if_pos ⟨rfl, hl⟩]
    rw [wp]
    split
    · rename_i hm
      have sp : sendP t b = { t with B := t.B ++ [b], em := true } := if_pos hm
      rw [sp]
      refine ⟨x, _, _, rfl, .inl rfl, .inr (.inr ⟨_, _, _, rfl, by omega⟩), slD_app ok.hx bx, ?_, Sc.bel_mono bx (by simp), by simp [Sc.bel]⟩
      have g : ∀ P Q V W : AObj, hg (K ++ [P, Q, V, W]) (K.length + 2) = V := fun P Q V W => by simp [hg, List.getD_eq_getElem?_getD]
      refine slD_of enc8_l dc8_e (L := t.B ++ [b]) ?_ (by simp) ?_
      · rw [g]; simp only [AObj.row, List.length_append, e8_len, List.length_cons, List.length_nil]
      · rw [g, fm_app]; rfl
    · rename_i hm
      have sp : sendP t b = { (comeP t b).1 with em := true } := if_neg hm
      rw [sp]
      obtain ⟨x', X, e1, e2, e3, e4⟩ := come_X ok hb bx bY (.own (rpC t x y)) (.own (rpC pt0 .nils .nils))
      have hs : ∀ P Q R c : AObj, (((K ++ (P :: Q :: X)) ++ [R]).set K.length c).set (K.length + 1) c = K ++ (c :: c :: (X ++ [R])) := fun P Q R c => by simp [List.set_append]
      rw [e1]
      simp only [hs]
      have hB : (comeP t b).1.B = t.B := by unfold comeP; split <;> rfl
      refine ⟨x', y, _, rfl, ?_, .inl rfl, ?_, ?_, Sc.bel_mono e4.2 (by simp), Sc.bel_mono bY (by simp)⟩
      · rcases e2 with h | ⟨i, v, n, h1, h2⟩
        · exact .inl h
        · exact .inr (.inr ⟨i, v, n, h1, h2⟩)
      · show slD 1 dc8 _ x' = some (comeP t b).1.A
        refine slD_kp e3 fun i hi => ?_
        have ne : i ≠ K.length ∧ i ≠ K.length + 1 := by
          rcases sl_cases e3 with ⟨h, _⟩ | ⟨j', v', h, _, hcs⟩
          · rw [h] at hi; simp [sid] at hi
          · rw [h] at hi
            simp only [sid, Option.some.injEq] at hi
            subst hi
            have bad : ∀ c : Pt, ∀ a b' : Sc, rpC c a b' ≠ (comeP t b).1.A.flatMap enc8 := fun c a b' hh => by
              have l1 := congrArg (fun l => List.head? l) hh
              cases hq : (comeP t b).1.A with
              | nil => rw [hq] at l1; simp [rpC] at l1
              | cons a A => rw [hq] at l1; simp [enc8, rpC] at l1
            constructor
            · intro e
              rw [e] at hcs
              have g : hg (K ++ (AObj.own (rpC t x y) :: AObj.own (rpC pt0 .nils .nils) :: X)) K.length = .own (rpC t x y) := by simp [hg, List.getD_eq_getElem?_getD]
              rw [g] at hcs
              exact bad _ _ _ hcs
            · intro e
              rw [e] at hcs
              have g : hg (K ++ (AObj.own (rpC t x y) :: AObj.own (rpC pt0 .nils .nils) :: X)) (K.length + 1) = .own (rpC pt0 .nils .nils) := by simp [hg, List.getD_eq_getElem?_getD]
              rw [g] at hcs
              exact bad _ _ _ hcs
        have h1 := hs (.own (rpC t x y)) (.own (rpC pt0 .nils .nils)) (.own (rpC (comeP t b).1 x' y)) (.own ((rpC (comeP t b).1 x' y).set 8 (.b true)))
        rw [← h1, hg_set_ne' (Ne.symm ne.2), hg_set_ne' (Ne.symm ne.1)]
        have li : i < (K ++ (AObj.own (rpC t x y) :: AObj.own (rpC pt0 .nils .nils) :: X)).length := by
          rcases sl_cases e3 with ⟨h, _⟩ | ⟨j', v', h, hv, hcs⟩
          · rw [h] at hi; simp [sid] at hi
          · rw [h] at hi
            simp only [sid, Option.some.injEq] at hi
            subst hi
            rcases e2 with h5 | ⟨j, v, n, h5, h6⟩
            · rw [h5] at h
              rw [h] at bx
              have : j' < K.length := by simpa [Sc.bel] using bx
              simp; omega
            · rcases Nat.lt_or_ge j' (K ++ (AObj.own (rpC t x y) :: AObj.own (rpC pt0 .nils .nils) :: X)).length with hh | hh
              · exact hh
              · exfalso
                rw [hg_ge _ hh] at hcs hv
                have : (comeP t b).1.A = [] := by
                  cases hq : (comeP t b).1.A with
                  | nil => rfl
                  | cons a A => rw [hq] at hcs; simp [AObj.cells, AObj.scs, enc8] at hcs
                have nz : 0 < (comeP t b).1.A.length := by
                  unfold comeP
                  split
                  · have e9 : comeP t b = ({ t with lo := true }, false) := if_pos ‹_›
                    rw [e9] at this
                    have rp : 0 < roomP t := by unfold roomP; split <;> decide
                    have : t.A.length = 0 := by simp at this; simp [this]
                    omega
                  · simp
                rw [this] at nz; simp at nz
        rw [hg_app li]
      · show slD 1 dc8 _ y = some (comeP t b).1.B
        rw [hB]; exact slD_app ok.hy bY
  · rename_i h0
    split
    · rename_i h2
      obtain ⟨rfl, hq⟩ := h2
      have wp : writeP t 2#64 b = (queueP t b, true) := rfl
      have qp : queueP t b = { t with ff := decide (¬ an8 b 1 = 0), A := [] } := by
        unfold queueP
        rw [if_neg]
        intro hh
        unfold qKeep at hq
        rw [hh.1, decide_eq_true hh.2] at hq
        exact absurd hq (by decide)
      rw [wp, qp]
      exact ⟨.nils, y, _, rfl, .inr (.inl rfl), .inl rfl, rfl, slD_app ok.hy bY, rfl, Sc.bel_mono bY (by simp)⟩
    · rename_i h2
      have hA : (writeP t off b).1.A = t.A ∧ (writeP t off b).1.B = t.B := by
        unfold writeP
        rw [if_neg h0]
        split
        · exact ⟨rfl, rfl⟩
        split
        · rename_i h3
          have hk : qKeep t b = true := by
            cases hq : qKeep t b
            · exact absurd ⟨h3, hq⟩ h2
            · rfl
          unfold qKeep at hk
          simp only [Bool.and_eq_true, decide_eq_true_eq] at hk
          have qp : queueP t b = { t with ff := decide (¬ an8 b 1 = 0) } := by
            unfold queueP
            rw [if_pos ⟨hk.1, hk.2⟩]
          rw [qp]; exact ⟨rfl, rfl⟩
        split
        · exact ⟨rfl, rfl⟩
        · exact (wr_of t .nils .nils off b).2
      refine ⟨x, y, _, rfl, .inl rfl, .inl rfl, ?_, ?_, Sc.bel_mono bx (by simp), Sc.bel_mono bY (by simp)⟩
      · rw [hA.1]; exact slD_app ok.hx bx
      · rw [hA.2]; exact slD_app ok.hy bY
end
end Go.Proofs.Ytfddaaplnnlfoaa
