/- Layer 11: stripes; the document's pieces and stripes: contracts -/
import Derived.Test.YtflcjnekmjdckaaGreatSby
import Derived.Test.YtflcjnekmjdckaaGreatSoI
namespace Go.Proofs.YtflcjnekmjdckaaGreat
open Go.Am
set_option linter.unusedSimpArgs false
set_option linter.unusedVariables false
noncomputable section

/-! ## XS6 -/
def strL (a b : BitVec 64) (c s st : Int) : List Int := (accP a b c s).map fun p => stripeU p.a st
theorem strL_len {a b : BitVec 64} {c s st : Int} : (strL a b c s st).length = (accP a b c s).length := by simp [strL]
theorem accP_le {a b : BitVec 64} {c s : Int} : (accP a b c s).length ≤ 4 := by
  cases h : smB c s
  · unfold accP; rw [if_neg (by simp [h])]; simp
  · exact (good_acc h).2.2
def s_stripes (args : List AV) (H : AH) : Option (AV × AH) :=
  match args with
  | [.g [.u a, .u b, .i c, .i s], .c (.i st)] =>
    if inR st then
      if smB c s = true then some (.c (.sl H.length 0 (strL a b c s st).length (ddp (srt ltI (strL a b c s st))).length), H ++ [.vec 1 (cmpCI (srt ltI (strL a b c s st)))])
      else some (.c .nils, H)
    else none
  | _ => none
theorem len_stripes (args : List AV) (H : AH) (v : AV) (H1 : AH) (h : s_stripes args H = some (v, H1)) : H.length ≤ H1.length := by
  unfold s_stripes at h
  repeat' split at h
  all_goals simp at h
  all_goals rw [← h.2]
  all_goals simp
theorem cmpCI_bel {A : List Int} {n : Nat} : (cmpCI A).all (Sc.bel n) = true := by
  unfold cmpCI
  rw [List.all_append, Bool.and_eq_true]; exact ⟨map_bel gI_num _ _, by rw [List.all_replicate]; split <;> rfl⟩
set_option maxHeartbeats 4000000 in
set_option maxRecDepth 100000 in
set_option maxHeartbeats 2000000 in
theorem ok_stripes : FpOk Tryz.prog 33 s_stripes := by
  refine fp_ok (s := s_stripes) (tab := [(31, .fp s_pieces), (61, .pu s_sstripe), (62, .fp s_sortI), (63, .fp s_cmpI)]) hmix (TabOk.cons (e := .fp s_pieces) ok_pieces (TabOk.cons (e := .pu s_sstripe) ok_sstripe (TabOk.cons (e := .fp s_sortI) ok_sortI (TabOk.cons (e := .fp s_cmpI) ok_cmpI TabOk.nil)))) Tryz.func33 rfl Tryz.results33 Tryz.ntmps33 (by kernel_rfl) (by kernel_rfl) len_stripes ?_
  intro args H v H1 h hargs hH
  unfold s_stripes at h
  split at h
  · rename_i a b c s st
    split at h
    · rename_i hst
      cases hm : smB c s
      · rw [hm] at h
        simp only [Bool.false_eq_true, if_false, Option.some.injEq, Prod.mk.injEq] at h
        obtain ⟨rfl, rfl⟩ := h
        refine ⟨by simp only [List.length_cons, List.length_nil]; decide, ?_⟩
        have v0 : ∀ H, vecD dcI H .nils = some [] := fun _ => rfl
        have p1 := fun H => s_sortI_eq (v0 H) (by decide)
        have p2 := fun H => s_cmpI_eq (v0 H) (by decide)
        have e2 : ∀ H, cmpI H .nils [] = (.nils, H) := fun _ => rfl
        have e3 : ∀ H cs, putV H .nils cs = H := fun _ _ => rfl
        (try simp (config := { maxSteps := 10000000 }) only [go_sem, seval, s_pieces_eq, s_sstripe_eq, s_sortI_eq, s_cmpI_eq, hm]; repeat (simp (disch := omega) only [w64_d, ipos, ineg, dpos, dneg]; try simp (config := { maxSteps := 10000000 }) only [go_sem, seval, s_pieces_eq, s_sstripe_eq, s_sortI_eq, s_cmpI_eq, hm]))
        refine arun_for 0 (fun _ => ([(5, .c .nils), (10, .c (.i 0)), (11, .c (.i 0))], H)) ?_ fun j hj => ?_
        · exact Wk.wk (Nat.le_refl _) (by simp [Am.get]) (by rfl) (subH_app _ _) hH
        · (try simp (config := { maxSteps := 10000000 }) only [go_sem, seval, p1, p2, e2, e3]; repeat (simp (disch := omega) only [w64_d, ipos, ineg, dpos, dneg]; try simp (config := { maxSteps := 10000000 }) only [go_sem, seval, p1, p2, e2, e3]))
          exact fin_fp rfl (subH_refl _) hH (Nat.le_refl _)
      · rw [hm] at h
        simp only [if_true, Option.some.injEq, Prod.mk.injEq] at h
        obtain ⟨rfl, rfl⟩ := h
        refine ⟨by simp only [List.length_cons, List.length_nil]; decide, ?_⟩
        have l4 := @accP_le a b c s
        have sl := @strL_len a b c s st
        have eL := accL_P a b c s
        have eN := accN_P a b c s
        have sg : ∀ (k : Nat) (p : Pc), (accP a b c s)[k]? = some p → (strL a b c s st)[k]? = some (stripeU p.a st) := fun k p h => by simp [strL, h]
        generalize strL a b c s st = A at *
        generalize accP a b c s = l at *
        (try simp (config := { maxSteps := 10000000 }) only [go_sem, seval, s_pieces_eq, s_sstripe_eq, s_sortI_eq, s_cmpI_eq, hm, eL, eN]; repeat (simp (disch := omega) only [w64_d, ipos, ineg, dpos, dneg]; try simp (config := { maxSteps := 10000000 }) only [go_sem, seval, s_pieces_eq, s_sstripe_eq, s_sortI_eq, s_cmpI_eq, hm, eL, eN]))
        have fl : (l.flatMap encP).length = 3 * l.length := by rw [fm_len encP_l, Nat.mul_comm]
        have lb : ∀ n, (l.flatMap encP).all (Sc.bel n) = true := fun n => by rw [List.all_flatMap]; exact List.all_eq_true.2 fun _ _ => rfl
        have bb : ∀ k, belH (H ++ [.dead, .dead, .vec 3 (l.flatMap encP), .vec 1 ((A.take k).map gI)]) = true := fun k => belH_app hH (by simp only [List.mem_cons, List.not_mem_nil, or_false, forall_eq_or_imp, forall_eq]; exact ⟨rfl, rfl, lb _, map_bel gI_num _ _⟩)
        refine arun_for l.length (fun k => ([(1, .c (.i st)), (5, .c (.sl (H.length + 3) 0 k k)), (9, .c (.sl (H.length + 2) 0 (3 * l.length) l.length)), (10, .c (.i l.length)), (11, .c (.i k))], H ++ [.dead, .dead, .vec 3 (l.flatMap encP), .vec 1 ((A.take k).map gI)])) ?_ fun k hk => ?_
        · exact Wk.trans (Wk.nil 5 1 (by decide) rfl (by simp [lo])) (Wk.wk (by simp [lo]) (by simp [Am.get]) (by simp [AV.bel, Sc.bel]) (by rw [List.append_assoc]; exact subH_pre _ ⟨.inl rfl, .inl rfl, .inr rfl, .inr rfl, trivial⟩) (bb 0))
        · have tl : ((A.take k).map gI).length = k := by simp; omega
          by_cases hlt : k < l.length
          · obtain ⟨p, hp⟩ : ∃ p, l[k]? = some p := ⟨_, List.getElem?_eq_getElem hlt⟩
            have e1 : w64 ((k : Int) + 1) = ((k + 1 : Nat) : Int) := by rw [w64_d (by omega) (by omega)]; omega
            have g1 := fm_le encP_l (L := l) (k := k) hlt
            have g3 := pc_row hp
            rw [fl] at g1
            have hA := sg k p hp
            have ht : (A.take (k + 1)).map gI = (A.take k).map gI ++ [.i (stripeU p.a st)] := by rw [List.take_add_one, hA, Option.toList_some, List.map_append]; rfl
            have k5 : (k + 1) * 8 ≤ 1099511627776 := by omega
            (try simp (config := { maxSteps := 10000000 }) only [go_sem, seval, s_pieces_eq, s_sstripe_eq, s_sortI_eq, s_cmpI_eq, e1, g1, g3, encP, fl, tl, hst, k5, List.take_succ_cons, List.take_zero]; repeat (simp (disch := omega) only [w64_d, ipos, ineg, dpos, dneg]; try simp (config := { maxSteps := 10000000 }) only [go_sem, seval, s_pieces_eq, s_sstripe_eq, s_sortI_eq, s_cmpI_eq, e1, g1, g3, encP, fl, tl, hst, k5, List.take_succ_cons, List.take_zero]))
            exact ⟨k + 1, by omega, by omega, Wk.wk (by simp [lo]) (by simp [Am.get]) (by simp [AV.bel, Sc.bel]) (subH_pre _ ⟨.inl rfl, .inl rfl, .inr rfl, .inr (by rw [ht]), trivial⟩) (bb (k + 1))⟩
          · obtain rfl : k = l.length := by omega
            have tA : A.take l.length = A := by rw [← sl, List.take_length]
            rw [tA]
            have lS : (srt ltI A).length = A.length := srt_len
            have p1 : s_sortI [.c (.sl (H.length + 3) 0 l.length l.length)] (H ++ [.dead, .dead, .vec 3 (l.flatMap encP), .vec 1 (A.map gI)]) = some (.t [], H ++ [.dead, .dead, .vec 3 (l.flatMap encP), .vec 1 ((srt ltI A).map gI)]) := by
              rw [s_sortI_eq (A := A) (vecD_of (g := gI) dcI_e (by rw [hg_len_add]; rfl) sl.symm sl.symm) (by omega)]
              simp only [putV, set_len_add]; rfl
            have p2 : s_cmpI [.c (.sl (H.length + 3) 0 l.length l.length)] (H ++ [.dead, .dead, .vec 3 (l.flatMap encP), .vec 1 ((srt ltI A).map gI)]) = some (.c (.sl (H.length + 3) 0 l.length (ddp (srt ltI A)).length), H ++ [.dead, .dead, .vec 3 (l.flatMap encP), .vec 1 (cmpCI (srt ltI A))]) := by
              rw [s_cmpI_eq (A := srt ltI A) (vecD_of (g := gI) dcI_e (by rw [hg_len_add]; rfl) (by omega) (by omega)) (by omega), cmpI_sl (by rw [hg_len_add]; rfl) (by simp) (by omega)]
              simp only [set_len_add]; rfl
            (try simp (config := { maxSteps := 10000000 }) only [go_sem, seval, p1, p2]; repeat (simp (disch := omega) only [w64_d, ipos, ineg, dpos, dneg]; try simp (config := { maxSteps := 10000000 }) only [go_sem, seval, p1, p2]))
            rw [sl]
            exact fin_tail1 3 (Nat.le_refl _) hH rfl cmpCI_bel ren_sl0.symm (by simp [AV.bel, Sc.bel])
    · simp at h
  · simp at h

/-! ## XS7 -/
def s_rpieces (args : List AV) (H : AH) : Option (AV × AH) :=
  match args with
  | [.g [.u a, .u b, .i c, .i s]] => if smB c s = true then some (.c (.sl H.length 0 (3 * (accP a b c s).length) (accP a b c s).length), H ++ [.vec 3 ((accP a b c s).flatMap encP)]) else some (.c .nils, H)
  | _ => none
theorem s_rpieces_eq {a b : BitVec 64} {c s : Int} {H : AH} : s_rpieces [.g [.u a, .u b, .i c, .i s]] H = if smB c s = true then some (.c (.sl H.length 0 (3 * (accP a b c s).length) (accP a b c s).length), H ++ [.vec 3 ((accP a b c s).flatMap encP)]) else some (.c .nils, H) := rfl
theorem len_rpieces (args : List AV) (H : AH) (v : AV) (H1 : AH) (h : s_rpieces args H = some (v, H1)) : H.length ≤ H1.length := by
  unfold s_rpieces at h
  repeat' split at h
  all_goals simp at h
  all_goals rw [← h.2]
  all_goals simp
set_option maxHeartbeats 8000000 in
set_option maxRecDepth 100000 in
set_option maxHeartbeats 2000000 in
theorem ok_rpieces : FpOk Tryz.prog 42 s_rpieces := by
  refine fp_ok (s := s_rpieces) (tab := [(68, .pu s_rsmay), (41, .pu s_rbyte)]) hmix (TabOk.cons (e := .pu s_rsmay) ok_rsmay (TabOk.cons (e := .pu s_rbyte) ok_rbyte TabOk.nil)) Tryz.func42 rfl Tryz.results42 Tryz.ntmps42 (by kernel_rfl) (by kernel_rfl) len_rpieces ?_
  intro args H v H1 h hargs hH
  unfold s_rpieces at h
  split at h
  · rename_i a b c s
    cases hm : smB c s
    · rw [hm] at h
      simp only [Bool.false_eq_true, if_false, Option.some.injEq, Prod.mk.injEq] at h
      obtain ⟨rfl, rfl⟩ := h
      refine ⟨by simp only [List.length_cons, List.length_nil]; decide, ?_⟩
      (try simp (config := { maxSteps := 10000000 }) only [go_sem, seval, s_rsmay_eq, s_rbyte_eq, hm]; repeat (simp (disch := omega) only [w64_d, ipos, ineg, dpos, dneg]; try simp (config := { maxSteps := 10000000 }) only [go_sem, seval, s_rsmay_eq, s_rbyte_eq, hm]))
      exact fin_fp rfl (subH_app _ _) hH (Nat.le_refl _)
    · rw [hm] at h
      simp only [if_true, Option.some.injEq, Prod.mk.injEq] at h
      obtain ⟨rfl, rfl⟩ := h
      refine ⟨by simp only [List.length_cons, List.length_nil]; decide, ?_⟩
      have hs : 1 ≤ s ∧ s ≤ 8 ∧ 0 ≤ c ∧ c < s := by simpa [smB] using hm
      have eA := byL_acc (a := a) (b := b) hm
      generalize accP a b c s = l at *
      let O : List Pc → AH := fun L => H ++ [.own [.u a, .u b, .i c, .i s], .vec 3 (L.flatMap encP)]
      have oO : ∀ L, H ++ [.own [.u a, .u b, .i c, .i s], .vec 3 (L.flatMap encP)] = O L := fun _ => rfl
      have bO : ∀ L, belH (O L) = true := fun L => belH_app hH (by simp only [List.mem_cons, List.not_mem_nil, or_false, forall_eq_or_imp, forall_eq]; exact ⟨rfl, encP_bel _ _⟩)
      (try simp (config := { maxSteps := 10000000 }) only [go_sem, seval, s_rsmay_eq, s_rbyte_eq, hm]; repeat (simp (disch := omega) only [w64_d, ipos, ineg, dpos, dneg]; try simp (config := { maxSteps := 10000000 }) only [go_sem, seval, s_rsmay_eq, s_rbyte_eq, hm]))
      refine arun_for s.toNat (fun k => ([(1, .c (.p H.length 0 0)), (3, .c (.sl (H.length + 1) 0 (3 * (byL (byteU a b c) c k).length) (byL (byteU a b c) c k).length)), (4, .c (.i k))], H ++ [.own [.u a, .u b, .i c, .i s], .vec 3 ((byL (byteU a b c) c k).flatMap encP)])) ?_ fun k hk => ?_
      · exact Wk.trans (Wk.nil 3 3 (by decide) rfl (by simp [lo])) (Wk.wk (by simp [lo]) (by simp [Am.get, byL]) (by simp [AV.bel, Sc.bel]) (by rw [List.append_assoc]; exact subH_refl _) (bO _))
      · have ln := @byL_len (byteU a b c) c k
        have le := fun p => @byL_le (byteU a b c) c k p
        by_cases hlt : k < s.toNat
        · have e1 : w64 ((k : Int) + 1) = ((k + 1 : Nat) : Int) := by rw [w64_d (by omega) (by omega)]; omega
          have e2 : (k : Int) < s := by omega
          have hc3 : 0 ≤ c ∧ c ≤ 8 ∧ 0 ≤ (k : Int) ∧ (k : Int) ≤ 8 := by omega
          have bS : byL (byteU a b c) c (k + 1) = byP (byteU a b c) c (byL (byteU a b c) c k) k := rfl
          have w1 : w64 (8 * (k : Int)) = 8 * k := w64_d (by omega) (by omega)
          rcases List.eq_nil_or_concat (byL (byteU a b c) c k) with hl | ⟨L, p, hl⟩
          · have bS' : byL (byteU a b c) c (k + 1) = [⟨byteU a b c k, 1, 8 * k⟩] := by rw [bS, hl]; rfl
            rw [hl]
            (try simp (config := { maxSteps := 10000000 }) only [go_sem, seval, s_rsmay_eq, s_rbyte_eq, e1, e2, hc3, w1, List.flatMap_nil]; repeat (simp (disch := omega) only [w64_d, ipos, ineg, dpos, dneg]; try simp (config := { maxSteps := 10000000 }) only [go_sem, seval, s_rsmay_eq, s_rbyte_eq, e1, e2, hc3, w1, List.flatMap_nil]))
            refine ⟨k + 1, by omega, by omega, ?_⟩
            rw [bS']
            exact Wk.wk (by simp [lo]) (by simp [Am.get]) (by simp [AV.bel, Sc.bel]) (subH_pre _ ⟨.inr rfl, .inr rfl, trivial⟩) (bO _)
          · rw [List.concat_eq_append] at hl
            have pn := le p (by rw [hl]; simp)
            have fl : ∀ M : List Pc, (M.flatMap encP).length = 3 * M.length := fun M => by rw [fm_len encP_l, Nat.mul_comm]
            have hll : L.length + 1 ≤ k := by rw [hl] at ln; simpa using ln
            have w2 : w64 (((L.length + 1 : Nat) : Int) - 1) = L.length := by rw [w64_d (by omega) (by omega)]; omega
            have w3 : w64 (p.n + 1) = p.n + 1 := w64_d (by omega) (by omega)
            have f1 : (L ++ [p]).flatMap encP = L.flatMap encP ++ [.u p.a, .i p.n, .i p.s] := by rw [List.flatMap_append, List.flatMap_singleton]; rfl
            have bS' : byL (byteU a b c) c (k + 1) = if (k : Int) ≠ c ∧ byteU a b c k / 64#64 = p.a / 64#64 then L ++ [⟨p.a, p.n + 1, p.s⟩] else L ++ [p] ++ [⟨byteU a b c k, 1, 8 * k⟩] := by
              rw [bS, hl]; unfold byP; simp
            rw [hl]
            rw [f1]
            have gl := fl L
            have d0 : ((L ++ [p]).length : Int) = ((L.length + 1 : Nat) : Int) := by simp
            have d1 : (L ++ [p]).length = L.length + 1 := by simp
            rw [d1]
            generalize hQ : L.flatMap encP = Q at *
            have c0 : (Q ++ [Sc.u p.a, .i p.n, .i p.s]).getD (L.length * 3) .any = .u p.a := by rw [List.getD_eq_getElem?_getD, List.getElem?_append_right (by omega), show L.length * 3 - Q.length = 0 by omega]; rfl
            have c1 : (Q ++ [Sc.u p.a, .i p.n, .i p.s]).getD (L.length * 3 + 1) .any = .i p.n := by rw [List.getD_eq_getElem?_getD, List.getElem?_append_right (by omega), show L.length * 3 + 1 - Q.length = 1 by omega]; rfl
            have r1 : wr (Q ++ [Sc.u p.a, .i p.n, .i p.s]) (L.length * 3 + 1) [.i (p.n + 1)] = Q ++ [.u p.a, .i (p.n + 1), .i p.s] := by
              have e : L.length * 3 + 1 = Q.length + 1 := by omega
              rw [e]; unfold wr
              have t1 : Q.take (Q.length + 1) = Q := List.take_of_length_le (by omega)
              have t2 : Q.drop (Q.length + 1 + 1) = [] := List.drop_of_length_le (by omega)
              have t3 : Q.length + 1 + 1 - Q.length = 2 := by omega
              rw [List.take_append, List.drop_append]; simp [t1, t2, t3]
            have q1 : (0 : Int) < ((L.length + 1 : Nat) : Int) := by omega
            have q2 : ((L.length : Nat) : Int) < ((L.length + 1 : Nat) : Int) := by omega
            have q3 : 3 * (L.length + 1) = Q.length + 3 := by omega
            have q4 : L.length * 3 + 1 ≤ Q.length + 3 := by omega
            have q5 : L.length * 3 + 1 + 1 ≤ Q.length + 3 := by omega
            have q6 : (0 : Int) ≤ (L.length : Int) := by omega
            have q7 : (L.length + 1 + 1) * 24 ≤ 1099511627776 := by omega
            have q8 : Q.length + 3 = (L.length + 1) * 3 := by omega
            by_cases h1 : (k : Int) = c
            · rw [if_neg (fun h => h.1 h1)] at bS'
              have h3 := eq_true h1
              (try simp (config := { maxSteps := 10000000 }) only [go_sem, seval, s_rsmay_eq, s_rbyte_eq, e1, e2, hc3, w1, w2, w3, h3, c0, c1, q1, q2, q3, q4, q5, q6, q7, q8]; repeat (simp (disch := omega) only [w64_d, ipos, ineg, dpos, dneg]; try simp (config := { maxSteps := 10000000 }) only [go_sem, seval, s_rsmay_eq, s_rbyte_eq, e1, e2, hc3, w1, w2, w3, h3, c0, c1, q1, q2, q3, q4, q5, q6, q7, q8]))
              refine ⟨k + 1, by omega, by omega, ?_⟩
              rw [bS']
              exact Wk.wk (by simp [lo]) (by simp [Am.get]; try omega) (by simp [AV.bel, Sc.bel]) (subH_pre _ ⟨.inr rfl, .inr (by rw [List.flatMap_append, f1]; simp [encP]), trivial⟩) (bO _)
            · by_cases h2 : byteU a b c k / 64#64 = p.a / 64#64
              · rw [if_pos ⟨h1, h2⟩] at bS'
                have h3 := eq_true h2
                (try simp (config := { maxSteps := 10000000 }) only [go_sem, seval, s_rsmay_eq, s_rbyte_eq, e1, e2, hc3, w1, w2, w3, h1, h3, c0, c1, r1, q1, q2, q3, q4, q5, q6, q7, q8]; repeat (simp (disch := omega) only [w64_d, ipos, ineg, dpos, dneg]; try simp (config := { maxSteps := 10000000 }) only [go_sem, seval, s_rsmay_eq, s_rbyte_eq, e1, e2, hc3, w1, w2, w3, h1, h3, c0, c1, r1, q1, q2, q3, q4, q5, q6, q7, q8]))
                refine ⟨k + 1, by omega, by omega, ?_⟩
                rw [bS']
                exact Wk.wk (by simp [lo]) (by simp [Am.get]; try omega) (by simp [AV.bel, Sc.bel]) (subH_pre _ ⟨.inr rfl, .inr (by rw [List.flatMap_append, hQ]; simp [encP]), trivial⟩) (bO _)
              · rw [if_neg (fun h => h2 h.2)] at bS'
                (try simp (config := { maxSteps := 10000000 }) only [go_sem, seval, s_rsmay_eq, s_rbyte_eq, e1, e2, hc3, w1, w2, w3, h1, h2, c0, c1, q1, q2, q3, q4, q5, q6, q7, q8]; repeat (simp (disch := omega) only [w64_d, ipos, ineg, dpos, dneg]; try simp (config := { maxSteps := 10000000 }) only [go_sem, seval, s_rsmay_eq, s_rbyte_eq, e1, e2, hc3, w1, w2, w3, h1, h2, c0, c1, q1, q2, q3, q4, q5, q6, q7, q8]))
                refine ⟨k + 1, by omega, by omega, ?_⟩
                rw [bS']
                exact Wk.wk (by simp [lo]) (by simp [Am.get]; try omega) (by simp [AV.bel, Sc.bel]) (subH_pre _ ⟨.inr rfl, .inr (by rw [List.flatMap_append, f1]; simp [encP]), trivial⟩) (bO _)
        · obtain rfl : k = s.toNat := by omega
          have e2 : ¬ ((s.toNat : Nat) : Int) < s := by omega
          rw [eA]
          (try simp (config := { maxSteps := 10000000 }) only [go_sem, seval, e2]; repeat (simp (disch := omega) only [w64_d, ipos, ineg, dpos, dneg]; try simp (config := { maxSteps := 10000000 }) only [go_sem, seval, e2]))
          exact fin_tail1 1 (Nat.le_refl _) hH rfl (encP_bel _ _) ren_sl0.symm (by simp [AV.bel, Sc.bel])
  · simp at h

/-! ### the reference's stripes -/
def setL (A : List Int) : List Int := A.foldl (insS ltI) []
theorem setL_take {A : List Int} {k : Nat} {x : Int} (h : A[k]? = some x) : setL (A.take (k + 1)) = insS ltI (setL (A.take k)) x := by
  unfold setL; rw [List.take_add_one, h, Option.toList_some, List.foldl_append]; rfl
theorem insS_len {α : Type} [DecidableEq α] {lt : α → α → Bool} {L : List α} {s : α} : (insS lt L s).length ≤ L.length + 1 := by
  unfold insS; split
  · omega
  · have := insP_le (lt := lt) (s := s) (L := L); simp; omega
theorem setL_le {A : List Int} : ∀ {k : Nat}, (setL (A.take k)).length ≤ k
  | 0 => by simp [setL]
  | k + 1 => by
    have ih := setL_le (A := A) (k := k)
    rcases Nat.lt_or_ge k A.length with h | h
    · rw [setL_take (List.getElem?_eq_getElem h)]
      have := insS_len (lt := ltI) (L := setL (A.take k)) (s := A[k]); omega
    · rw [List.take_of_length_le (by omega)] at ih ⊢; omega
def s_rstripes (args : List AV) (H : AH) : Option (AV × AH) :=
  match args with
  | [.g [.u a, .u b, .i c, .i s], .c (.i st)] =>
    if inR st then
      if smB c s = true then some (.c (.sl H.length 0 (setL (strL a b c s st)).length (setL (strL a b c s st)).length), H ++ [.vec 1 ((setL (strL a b c s st)).map gI)])
      else some (.c .nils, H)
    else none
  | _ => none
theorem s_rstripes_eq {a b : BitVec 64} {c s st : Int} {H : AH} (h : inR st) : s_rstripes [.g [.u a, .u b, .i c, .i s], .c (.i st)] H = if smB c s = true then some (.c (.sl H.length 0 (setL (strL a b c s st)).length (setL (strL a b c s st)).length), H ++ [.vec 1 ((setL (strL a b c s st)).map gI)]) else some (.c .nils, H) := by simp only [s_rstripes, h, if_true]
theorem s_stripes_eq {a b : BitVec 64} {c s st : Int} {H : AH} (h : inR st) : s_stripes [.g [.u a, .u b, .i c, .i s], .c (.i st)] H = if smB c s = true then some (.c (.sl H.length 0 (strL a b c s st).length (ddp (srt ltI (strL a b c s st))).length), H ++ [.vec 1 (cmpCI (srt ltI (strL a b c s st)))]) else some (.c .nils, H) := by simp only [s_stripes, h, if_true]
theorem len_rstripes (args : List AV) (H : AH) (v : AV) (H1 : AH) (h : s_rstripes args H = some (v, H1)) : H.length ≤ H1.length := by
  unfold s_rstripes at h
  repeat' split at h
  all_goals simp at h
  all_goals rw [← h.2]
  all_goals simp
theorem insP_get {s : Int} {L : List Int} {i : Nat} {y : Int} (h : i < insP ltI s L) (hy : L[i]? = some y) : y < s := by
  have := tw_get (p := fun y => ltI y s) h hy; simpa [ltI] using this
theorem insP_end {s : Int} {L : List Int} {y : Int} (hy : L[insP ltI s L]? = some y) : ¬ y < s := by
  have := tw_end (p := fun y => ltI y s) hy; simpa [ltI] using this
set_option maxHeartbeats 8000000 in
set_option maxRecDepth 100000 in
set_option maxHeartbeats 2000000 in
theorem ok_rstripes : FpOk Tryz.prog 20 s_rstripes := by
  refine fp_ok (s := s_rstripes) (tab := [(42, .fp s_rpieces), (43, .pu s_rstripe)]) hmix (TabOk.cons (e := .fp s_rpieces) ok_rpieces (TabOk.cons (e := .pu s_rstripe) ok_rstripe TabOk.nil)) Tryz.func20 rfl Tryz.results20 Tryz.ntmps20 (by kernel_rfl) (by kernel_rfl) len_rstripes ?_
  intro args H v H1 h hargs hH
  unfold s_rstripes at h
  split at h
  · rename_i a b c s st
    split at h
    · rename_i hst
      cases hm : smB c s
      · rw [hm] at h
        simp only [Bool.false_eq_true, if_false, Option.some.injEq, Prod.mk.injEq] at h
        obtain ⟨rfl, rfl⟩ := h
        refine ⟨by simp only [List.length_cons, List.length_nil]; decide, ?_⟩
        (try simp (config := { maxSteps := 10000000 }) only [go_sem, seval, s_rpieces_eq, s_rstripe_eq, hm]; repeat (simp (disch := omega) only [w64_d, ipos, ineg, dpos, dneg]; try simp (config := { maxSteps := 10000000 }) only [go_sem, seval, s_rpieces_eq, s_rstripe_eq, hm]))
        refine arun_for 0 (fun _ => ([(5, .c .nils), (6, .c .nils), (7, .c (.i 0))], H)) ?_ fun j hj => ?_
        · exact Wk.wk (Nat.le_refl _) (by simp [Am.get]) (by rfl) (subH_app _ _) hH
        · (try simp (config := { maxSteps := 10000000 }) only [go_sem, seval]; repeat (simp (disch := omega) only [w64_d, ipos, ineg, dpos, dneg]; try simp (config := { maxSteps := 10000000 }) only [go_sem, seval]))
          exact fin_fp rfl (subH_refl _) hH (Nat.le_refl _)
      · rw [hm] at h
        simp only [if_true, Option.some.injEq, Prod.mk.injEq] at h
        obtain ⟨rfl, rfl⟩ := h
        refine ⟨by simp only [List.length_cons, List.length_nil]; decide, ?_⟩
        have l4 := @accP_le a b c s
        have sl := @strL_len a b c s st
        have sg : ∀ (k : Nat) (p : Pc), (accP a b c s)[k]? = some p → (strL a b c s st)[k]? = some (stripeU p.a st) := fun k p h => by simp [strL, h]
        have pieces := fun H => s_rpieces_eq (a := a) (b := b) (c := c) (s := s) (H := H)
        generalize strL a b c s st = A at *
        generalize accP a b c s = l at *
        have fl : (l.flatMap encP).length = 3 * l.length := by rw [fm_len encP_l, Nat.mul_comm]
        have bb : ∀ L : List Int, belH (H ++ [.dead, .vec 3 (l.flatMap encP), .vec 1 (L.map gI)]) = true := fun L => belH_app hH (by simp only [List.mem_cons, List.not_mem_nil, or_false, forall_eq_or_imp, forall_eq]; exact ⟨rfl, encP_bel _ _, map_bel gI_num _ _⟩)
        (try simp (config := { maxSteps := 10000000 }) only [go_sem, seval, s_rpieces_eq, s_rstripe_eq, hm, pieces]; repeat (simp (disch := omega) only [w64_d, ipos, ineg, dpos, dneg]; try simp (config := { maxSteps := 10000000 }) only [go_sem, seval, s_rpieces_eq, s_rstripe_eq, hm, pieces]))
        refine arun_for l.length (fun k => ([(1, .c (.i st)), (5, .c (.sl (H.length + 2) 0 (setL (A.take k)).length (setL (A.take k)).length)), (6, .c (.sl (H.length + 1) 0 (3 * l.length) l.length)), (7, .c (.i k))], H ++ [.dead, .vec 3 (l.flatMap encP), .vec 1 ((setL (A.take k)).map gI)])) ?_ fun k hk => ?_
        · exact Wk.trans (Wk.nil 5 1 (by decide) rfl (by simp [lo])) (Wk.wk (by simp [lo]) (by simp [Am.get, setL]) (by simp [AV.bel, Sc.bel]) (by rw [List.append_assoc]; exact subH_pre _ ⟨.inl rfl, .inr rfl, .inr rfl, trivial⟩) (bb _))
        · have ll := @setL_le A k
          by_cases hlt : k < l.length
          · obtain ⟨p, hp⟩ : ∃ p, l[k]? = some p := ⟨_, List.getElem?_eq_getElem hlt⟩
            have hA := sg k p hp
            have e1 : w64 ((k : Int) + 1) = ((k + 1 : Nat) : Int) := by rw [w64_d (by omega) (by omega)]; omega
            have g1 := fm_le encP_l (L := l) (k := k) hlt
            have g3 := fm_cell encP_l hp (i := 0) (by decide)
            rw [Nat.add_zero] at g3
            rw [fl] at g1
            have g4 : k * 3 + 1 ≤ 3 * l.length := by omega
            have sS := setL_take hA
            generalize hL : setL (A.take k) = L at *
            generalize hx : stripeU p.a st = x at *
            (try simp (config := { maxSteps := 10000000 }) only [go_sem, seval, s_rpieces_eq, s_rstripe_eq, g3, g4, encP, fl, hst, hx]; repeat (simp (disch := omega) only [w64_d, ipos, ineg, dpos, dneg]; try simp (config := { maxSteps := 10000000 }) only [go_sem, seval, s_rpieces_eq, s_rstripe_eq, g3, g4, encP, fl, hst, hx]))
            refine arun_for (insP ltI x L) (fun i => ([(1, .c (.i st)), (5, .c (.sl (H.length + 2) 0 L.length L.length)), (6, .c (.sl (H.length + 1) 0 (3 * l.length) l.length)), (7, .c (.i k)), (8, .c (.i x)), (9, .c (.i i))], H ++ [.dead, .vec 3 (l.flatMap encP), .vec 1 (L.map gI)])) ?_ fun i hi => ?_
            · exact Wk.wk (by simp [lo]) (by simp [Am.get]) (by simp [AV.bel, Sc.bel]) (subH_refl _) (bb _)
            · have ip := insP_le (lt := ltI) (s := x) (L := L)
              have e2 : w64 ((i : Int) + 1) = ((i + 1 : Nat) : Int) := by rw [w64_d (by omega) (by omega)]; omega
              by_cases hi2 : i < insP ltI x L
              · obtain ⟨y, hy⟩ : ∃ y, L[i]? = some y := ⟨_, List.getElem?_eq_getElem (by omega)⟩
                have yx := insP_get hi2 hy
                have c0 := map_getD (g := gI) hy
                have q1 : (i : Int) < L.length := by omega
                have q2 : (0 : Int) ≤ i := by omega
                have q3 : i + 1 ≤ L.length := by omega
                (try simp (config := { maxSteps := 10000000 }) only [go_sem, seval, q1, q2, q3, e2, c0, gI, yx, List.length_map]; repeat (simp (disch := omega) only [w64_d, ipos, ineg, dpos, dneg]; try simp (config := { maxSteps := 10000000 }) only [go_sem, seval, q1, q2, q3, e2, c0, gI, yx, List.length_map]))
                exact ⟨i + 1, by omega, by omega, Wk.wk (by simp [lo]) (by simp [Am.get]) (by simp [AV.bel, Sc.bel]) (subH_refl _) (bb _)⟩
              · obtain rfl : i = insP ltI x L := by omega
                have sS' : insS ltI L x = if L[insP ltI x L]? = some x then L else L.take (insP ltI x L) ++ x :: L.drop (insP ltI x L) := rfl
                have pe := fun y => insP_end (s := x) (L := L) (y := y)
                generalize hP : insP ltI x L = P at *
                have q2 : (0 : Int) ≤ (P : Int) := by omega
                have q4 : (P : Int) ≤ L.length := by omega
                have o1 : ((L.map gI).take P).all Sc.one = true := by rw [← List.map_take]; exact map_one gI_num _
                have o2 : ((L.map gI).drop P).all Sc.one = true := by rw [← List.map_drop]; exact map_one gI_num _
                have t1 : ((L.map gI).drop P).take (L.length - P) = (L.map gI).drop P := List.take_of_length_le (by simp)
                have u1 : (P + (L.length - P) ≤ L.length) = True := eq_true (by omega)
                have u2 : min P L.length = P := by omega
                have u3 : P * 8 ≤ 1099511627776 := by omega
                have u4 : (P + 1) * 8 ≤ 1099511627776 := by omega
                have u5 : (P + 1 + (L.length - P)) * 8 ≤ 1099511627776 := by omega
                rcases Nat.lt_or_ge P L.length with hPl | hPl
                · obtain ⟨y, hy⟩ : ∃ y, L[P]? = some y := ⟨_, List.getElem?_eq_getElem hPl⟩
                  have yx := pe y hy
                  have c0 := map_getD (g := gI) hy
                  have q1 : (P : Int) < L.length := by omega
                  have q3 : P + 1 ≤ L.length := by omega
                  by_cases hxy : y = x
                  · subst hxy
                    rw [if_pos hy] at sS'
                    (try simp (config := { maxSteps := 10000000 }) only [go_sem, seval, q1, q2, q3, c0, gI, e1, List.length_map]; repeat (simp (disch := omega) only [w64_d, ipos, ineg, dpos, dneg]; try simp (config := { maxSteps := 10000000 }) only [go_sem, seval, q1, q2, q3, c0, gI, e1, List.length_map]))
                    refine ⟨k + 1, by omega, by omega, ?_⟩
                    rw [sS, sS']
                    exact Wk.wk (by simp [lo]) (by simp [Am.get]) (by simp [AV.bel, Sc.bel]) (subH_refl _) (bb _)
                  · rw [if_neg (by rw [hy]; simpa using hxy)] at sS'
                    (try simp (config := { maxSteps := 10000000 }) only [go_sem, seval, q1, q2, q3, q4, c0, gI, yx, hxy, e1, List.length_map, o1, o2, t1, u1, u2, u3, u4, u5, List.length_take, List.length_drop, Int.toNat_natCast, Nat.sub_zero]; repeat (simp (disch := omega) only [w64_d, ipos, ineg, dpos, dneg]; try simp (config := { maxSteps := 10000000 }) only [go_sem, seval, q1, q2, q3, q4, c0, gI, yx, hxy, e1, List.length_map, o1, o2, t1, u1, u2, u3, u4, u5, List.length_take, List.length_drop, Int.toNat_natCast, Nat.sub_zero]))
                    have sl1 : (insS ltI L x).length = P + 1 + (L.length - P) := by rw [sS']; simp; omega
                    refine ⟨k + 1, by omega, by omega, ?_⟩
                    rw [sS, sl1]
                    exact Wk.tl [0, 1, 3] (Nat.le_refl _) hH (by decide) ⟨.inl rfl, .inr (ren_num (encP_pf _)), .inr ((ren_num (map_pf gI_num _)).trans (by rw [sS']; simp [hg, gI])), trivial⟩ (by simp [Am.get, AV.ren, Sc.ren, tabR_k]) (by simp [AV.bel, Sc.bel])
                      (by simp only [List.all_cons, List.all_nil, Bool.and_true, Bool.and_eq_true]; exact ⟨rfl, encP_bel _ _, map_bel gI_num _ _⟩)
                · obtain rfl : P = L.length := by omega
                  rw [if_neg (by simp)] at sS'
                  (try simp (config := { maxSteps := 10000000 }) only [go_sem, seval, q2, q4, gI, e1, List.length_map, o1, o2, t1, u1, u2, u3, u4, u5, List.length_take, List.length_drop, Int.toNat_natCast, Nat.sub_zero, Nat.sub_self]; repeat (simp (disch := omega) only [w64_d, ipos, ineg, dpos, dneg]; try simp (config := { maxSteps := 10000000 }) only [go_sem, seval, q2, q4, gI, e1, List.length_map, o1, o2, t1, u1, u2, u3, u4, u5, List.length_take, List.length_drop, Int.toNat_natCast, Nat.sub_zero, Nat.sub_self]))
                  have sl1 : (insS ltI L x).length = L.length + 1 := by rw [sS']; simp
                  refine ⟨k + 1, by omega, by omega, ?_⟩
                  rw [sS, sl1]
                  exact Wk.tl [0, 1, 3] (Nat.le_refl _) hH (by decide) ⟨.inl rfl, .inr (ren_num (encP_pf _)), .inr ((ren_num (map_pf gI_num _)).trans (by rw [sS']; simp [hg, gI]; rw [List.take_of_length_le (by simp)])), trivial⟩ (by simp [Am.get, AV.ren, Sc.ren, tabR_k]) (by simp [AV.bel, Sc.bel])
                    (by simp only [List.all_cons, List.all_nil, Bool.and_true, Bool.and_eq_true]; exact ⟨rfl, encP_bel _ _, map_bel gI_num _ _⟩)
          · obtain rfl : k = l.length := by omega
            have tA : A.take l.length = A := by rw [← sl, List.take_length]
            rw [tA]
            (try simp (config := { maxSteps := 10000000 }) only [go_sem, seval]; repeat (simp (disch := omega) only [w64_d, ipos, ineg, dpos, dneg]; try simp (config := { maxSteps := 10000000 }) only [go_sem, seval]))
            exact fin_tail1 2 (Nat.le_refl _) hH rfl (map_bel gI_num _ _) ren_sl0.symm (by simp [AV.bel, Sc.bel])
    · simp at h
  · simp at h

end
end Go.Proofs.YtflcjnekmjdckaaGreat
