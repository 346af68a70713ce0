/- Layer 31: the lines of an ask: contracts. -/
import Derived.Test.YtcbhelkafelofaaGreatSo
import Derived.Test.YtcbhelkafelofaaGreatSoU
import Derived.Test.YtcbhelkafelofaaGreatAsk
import Derived.Test.YtcbhelkafelofaaGreatTy
import Derived.Test.YtcbhelkafelofaaGreatS2A
namespace Go.Proofs.YtcbhelkafelofaaGreat
open Go.Am
set_option linter.unusedSimpArgs false
set_option linter.unusedVariables false
noncomputable section

def linL (a b : BitVec 64) (c s : Int) : List (BitVec 64) := (accP a b c s).map fun p => p.a / 64#64
theorem linL_len {a b : BitVec 64} {c s : Int} : (linL a b c s).length = (accP a b c s).length := by simp [linL]
theorem accP_le {a b : BitVec 64} {c s : Int} : (accP a b c s).length ≤ 4 := by
  cases h : smB c s
  · unfold accP; rw [if_neg (by simp [h])]; simp
  · exact (good_acc h).2.2
def isL (k c s : Int) : Bool := decide (groupI k = 1) && smB c s
def isR (r : List Sc) : Prop := r.length = 14 ∧ r.all Sc.pf = true
instance (r : List Sc) : Decidable (isR r) := Classical.propDecidable _
def s_elines (args : List AV) (H : AH) : Option (AV × AH) :=
  match args with
  | [.g (.i k :: .u a :: .u b :: .i c :: .i s :: r)] =>
    if isR r then
      if isL k c s = true then some (.c (.sl H.length 0 (linL a b c s).length (ddp (srt ltU (linL a b c s))).length), H ++ [.vec 1 (cmpCU (srt ltU (linL a b c s)))])
      else some (.c .nils, H)
    else none
  | _ => none
theorem s_elines_eq {k : Int} {a b : BitVec 64} {c s : Int} {r : List Sc} {H : AH} (h : isR r) : s_elines [.g (.i k :: .u a :: .u b :: .i c :: .i s :: r)] H = if isL k c s = true then some (.c (.sl H.length 0 (linL a b c s).length (ddp (srt ltU (linL a b c s))).length), H ++ [.vec 1 (cmpCU (srt ltU (linL a b c s)))]) else some (.c .nils, H) := by simp only [s_elines, h, if_true]
theorem len_elines (args : List AV) (H : AH) (v : AV) (H1 : AH) (h : s_elines args H = some (v, H1)) : H.length ≤ H1.length := by
  unfold s_elines at h
  repeat' split at h
  all_goals simp at h
  all_goals rw [← h.2]
  all_goals simp
theorem cmpCU_bel {A : List (BitVec 64)} {n : Nat} : (cmpCU A).all (Sc.bel n) = true := by
  unfold cmpCU
  rw [List.all_append, Bool.and_eq_true]; exact ⟨map_bel gU_num _ _, by rw [List.all_replicate]; split <;> rfl⟩
set_option maxHeartbeats 8000000 in
set_option maxRecDepth 100000 in
set_option maxHeartbeats 2000000 in
theorem ok_elines : FpOk Tryz.prog 100 s_elines := by
  refine fp_ok (s := s_elines) (tab := [(32, .pu s_egroup), (88, .pu s_saccess), (87, .fp s_pieces), (54, .pu s_sline), (128, .fp s_sortU), (129, .fp s_cmpU)]) hmix (TabOk.cons (e := .pu s_egroup) ok_egroup (TabOk.cons (e := .pu s_saccess) ok_saccess (TabOk.cons (e := .fp s_pieces) ok_pieces (TabOk.cons (e := .pu s_sline) ok_sline (TabOk.cons (e := .fp s_sortU) ok_sortU (TabOk.cons (e := .fp s_cmpU) ok_cmpU TabOk.nil)))))) Tryz.func100 rfl Tryz.results100 Tryz.ntmps100 (by kernel_rfl) (by kernel_rfl) len_elines ?_
  intro args H v H1 h hargs hH
  unfold s_elines at h
  split at h
  · rename_i kk a b c s r
    split at h
    · rename_i hr
      obtain ⟨lr, pr⟩ := hr
      have br : ∀ n, r.all (Sc.bel n) = true := fun n => pf_bel n pr
      have rt : r.take 14 = r := List.take_of_length_le (by omega)
      by_cases hg : groupI kk = 1
      · cases hm : smB c s
        · have hL : isL kk c s = false := by simp [isL, hm]
          rw [hL] at h
          simp only [Bool.false_eq_true, if_false, Option.some.injEq, Prod.mk.injEq] at h
          obtain ⟨rfl, rfl⟩ := h
          refine ⟨by simp only [List.length_cons, List.length_nil]; decide, ?_⟩
          have v0 : ∀ H, vecD dcU H .nils = some [] := fun _ => rfl
          have p1 := fun H => s_sortU_eq (v0 H) (by decide)
          have p2 := fun H => s_cmpU_eq (v0 H) (by decide)
          have e2 : ∀ H, cmpU H .nils [] = (.nils, H) := fun _ => rfl
          have e3 : ∀ H cs, putV H .nils cs = H := fun _ _ => rfl
          (try simp (config := { maxSteps := 10000000 }) only [go_sem, seval, s_egroup_eq, s_saccess_eq, s_pieces_eq, s_sline_eq, s_sortU_eq, s_cmpU_eq, hm, hg, lr, pr, rt]; repeat (simp (disch := omega) only [w64_d, ipos, ineg, dpos, dneg]; try simp (config := { maxSteps := 10000000 }) only [go_sem, seval, s_egroup_eq, s_saccess_eq, s_pieces_eq, s_sline_eq, s_sortU_eq, s_cmpU_eq, hm, hg, lr, pr, rt]))
          refine arun_for 0 (fun _ => ([(3, .c .nils), (13, .c (.i 0)), (14, .c (.i 0))], H)) ?_ fun j hj => ?_
          · exact Wk.wk (Nat.le_refl _) (by simp [Am.get]) (by rfl) (subH_app _ _) hH
          · (try simp (config := { maxSteps := 10000000 }) only [go_sem, seval, p1, p2, e2, e3]; repeat (simp (disch := omega) only [w64_d, ipos, ineg, dpos, dneg]; try simp (config := { maxSteps := 10000000 }) only [go_sem, seval, p1, p2, e2, e3]))
            exact fin_fp rfl (subH_refl _) hH (Nat.le_refl _)
        · have hL : isL kk c s = true := by simp [isL, hm, hg]
          rw [hL] at h
          simp only [if_true, Option.some.injEq, Prod.mk.injEq] at h
          obtain ⟨rfl, rfl⟩ := h
          refine ⟨by simp only [List.length_cons, List.length_nil]; decide, ?_⟩
          have l4 := @accP_le a b c s
          have sl := @linL_len a b c s
          have eL := accL_P a b c s
          have eN := accN_P a b c s
          have sg : ∀ (k : Nat) (p : Pc), (accP a b c s)[k]? = some p → (linL a b c s)[k]? = some (p.a / 64#64) := fun k p h => by simp [linL, h]
          generalize linL a b c s = A at *
          generalize accP a b c s = l at *
          (try simp (config := { maxSteps := 10000000 }) only [go_sem, seval, s_egroup_eq, s_saccess_eq, s_pieces_eq, s_sline_eq, s_sortU_eq, s_cmpU_eq, hm, hg, lr, pr, rt, eL, eN]; repeat (simp (disch := omega) only [w64_d, ipos, ineg, dpos, dneg]; try simp (config := { maxSteps := 10000000 }) only [go_sem, seval, s_egroup_eq, s_saccess_eq, s_pieces_eq, s_sline_eq, s_sortU_eq, s_cmpU_eq, hm, hg, lr, pr, rt, eL, eN]))
          have fl : (l.flatMap encP).length = 3 * l.length := by rw [fm_len encP_l, Nat.mul_comm]
          have bb : ∀ k, belH (H ++ [.dead, .dead, .vec 3 (l.flatMap encP), .vec 1 ((A.take k).map gU)]) = true := fun k => belH_app hH (by simp only [List.mem_cons, List.not_mem_nil, or_false, forall_eq_or_imp, forall_eq]; exact ⟨rfl, rfl, encP_bel _ _, map_bel gU_num _ _⟩)
          refine arun_for l.length (fun k => ([(3, .c (.sl (H.length + 3) 0 k k)), (12, .c (.sl (H.length + 2) 0 (3 * l.length) l.length)), (13, .c (.i l.length)), (14, .c (.i k))], H ++ [.dead, .dead, .vec 3 (l.flatMap encP), .vec 1 ((A.take k).map gU)])) ?_ fun k hk => ?_
          · exact Wk.trans (Wk.nil 3 1 (by decide) rfl (by simp [lo])) (Wk.wk (by simp [lo]) (by simp [Am.get]) (by simp [AV.bel, Sc.bel]) (by rw [List.append_assoc]; exact subH_pre _ ⟨.inl rfl, .inl rfl, .inr rfl, .inr rfl, trivial⟩) (bb 0))
          · have tl : ((A.take k).map gU).length = k := by simp; omega
            by_cases hlt : k < l.length
            · obtain ⟨p, hp⟩ : ∃ p, l[k]? = some p := ⟨_, List.getElem?_eq_getElem hlt⟩
              have e1 : w64 ((k : Int) + 1) = ((k + 1 : Nat) : Int) := by rw [w64_d (by omega) (by omega)]; omega
              have g1 := fm_le encP_l (L := l) (k := k) hlt
              have g3 := pc_row hp
              rw [fl] at g1
              have hA := sg k p hp
              have ht : (A.take (k + 1)).map gU = (A.take k).map gU ++ [.u (p.a / 64#64)] := by rw [List.take_add_one, hA, Option.toList_some, List.map_append]; rfl
              have k5 : (k + 1) * 8 ≤ 1099511627776 := by omega
              (try simp (config := { maxSteps := 10000000 }) only [go_sem, seval, s_egroup_eq, s_saccess_eq, s_pieces_eq, s_sline_eq, s_sortU_eq, s_cmpU_eq, e1, g1, g3, encP, fl, tl, k5, List.take_succ_cons, List.take_zero]; repeat (simp (disch := omega) only [w64_d, ipos, ineg, dpos, dneg]; try simp (config := { maxSteps := 10000000 }) only [go_sem, seval, s_egroup_eq, s_saccess_eq, s_pieces_eq, s_sline_eq, s_sortU_eq, s_cmpU_eq, e1, g1, g3, encP, fl, tl, k5, List.take_succ_cons, List.take_zero]))
              exact ⟨k + 1, by omega, by omega, Wk.wk (by simp [lo]) (by simp [Am.get]) (by simp [AV.bel, Sc.bel]) (subH_pre _ ⟨.inl rfl, .inl rfl, .inr rfl, .inr (by rw [ht]), trivial⟩) (bb (k + 1))⟩
            · obtain rfl : k = l.length := by omega
              have tA : A.take l.length = A := by rw [← sl, List.take_length]
              rw [tA]
              have lS : (srt ltU A).length = A.length := srt_len
              have p1 : s_sortU [.c (.sl (H.length + 3) 0 l.length l.length)] (H ++ [.dead, .dead, .vec 3 (l.flatMap encP), .vec 1 (A.map gU)]) = some (.t [], H ++ [.dead, .dead, .vec 3 (l.flatMap encP), .vec 1 ((srt ltU A).map gU)]) := by
                rw [s_sortU_eq (A := A) (vecD_of (g := gU) dcU_e (by rw [hg_len_add]; rfl) sl.symm sl.symm) (by omega)]
                simp only [putV, set_len_add]; rfl
              have p2 : s_cmpU [.c (.sl (H.length + 3) 0 l.length l.length)] (H ++ [.dead, .dead, .vec 3 (l.flatMap encP), .vec 1 ((srt ltU A).map gU)]) = some (.c (.sl (H.length + 3) 0 l.length (ddp (srt ltU A)).length), H ++ [.dead, .dead, .vec 3 (l.flatMap encP), .vec 1 (cmpCU (srt ltU A))]) := by
                rw [s_cmpU_eq (A := srt ltU A) (vecD_of (g := gU) dcU_e (by rw [hg_len_add]; rfl) (by omega) (by omega)) (by omega), cmpU_sl (by rw [hg_len_add]; rfl) (by simp) (by omega)]
                simp only [set_len_add]; rfl
              (try simp (config := { maxSteps := 10000000 }) only [go_sem, seval, p1, p2]; repeat (simp (disch := omega) only [w64_d, ipos, ineg, dpos, dneg]; try simp (config := { maxSteps := 10000000 }) only [go_sem, seval, p1, p2]))
              rw [sl]
              exact fin_tail1 3 (Nat.le_refl _) hH rfl cmpCU_bel ren_sl0.symm (by simp [AV.bel, Sc.bel])
      · have hL : isL kk c s = false := by simp [isL, hg]
        rw [hL] at h
        simp only [Bool.false_eq_true, if_false, Option.some.injEq, Prod.mk.injEq] at h
        obtain ⟨rfl, rfl⟩ := h
        refine ⟨by simp only [List.length_cons, List.length_nil]; decide, ?_⟩
        (try simp (config := { maxSteps := 10000000 }) only [go_sem, seval, s_egroup_eq, s_saccess_eq, s_pieces_eq, s_sline_eq, s_sortU_eq, s_cmpU_eq, hg, lr, pr, rt]; repeat (simp (disch := omega) only [w64_d, ipos, ineg, dpos, dneg]; try simp (config := { maxSteps := 10000000 }) only [go_sem, seval, s_egroup_eq, s_saccess_eq, s_pieces_eq, s_sline_eq, s_sortU_eq, s_cmpU_eq, hg, lr, pr, rt]))
        exact fin_fp rfl (subH_app _ _) hH (Nat.le_refl _)
    · simp at h
  · simp at h
end
end Go.Proofs.YtcbhelkafelofaaGreat
namespace Go.Proofs.YtcbhelkafelofaaGreat
open Go.Am
set_option linter.unusedSimpArgs false
set_option linter.unusedVariables false
noncomputable section



def ovBit (hi lo : BitVec 64) (k : Nat) : BitVec 64 := if (63 : Int) < 127 - k then bitU hi (127 - k - 64) else bitU lo (127 - k)
def ovR (hi lo b : BitVec 64) : Nat → BitVec 64
  | 0 => 0#64
  | k + 1 =>
    if (9223372036854775807#64 < ovR hi lo b k ∨ 2#64 * ovR hi lo b k + ovBit hi lo k < 2#64 * ovR hi lo b k) ∨ b ≤ 2#64 * ovR hi lo b k + ovBit hi lo k then 2#64 * ovR hi lo b k + ovBit hi lo k - b
    else 2#64 * ovR hi lo b k + ovBit hi lo k



def tk (part b : BitVec 64) (s : BitVec 64 × BitVec 64) : Nat → BitVec 64 × BitVec 64
  | 0 => s
  | k + 1 =>
    if (tk part b s k).1 >>> 63 = 1#64 ∨ b ≤ ((tk part b s k).1 <<< 1 ||| (part >>> (63 - k) &&& 1#64)) then
      (((tk part b s k).1 <<< 1 ||| (part >>> (63 - k) &&& 1#64)) - b, (tk part b s k).2 <<< 1 ||| 1#64)
    else (((tk part b s k).1 <<< 1 ||| (part >>> (63 - k) &&& 1#64)), (tk part b s k).2 <<< 1)
def s_take (args : List AV) (H : AH) : Option (AV × AH) :=
  match args with
  | [.c (.u part), .c (.p i 0 0), .c (.p j 0 0)] =>
    match hg H i, hg H j with
    | .own [.u rest], .own [.u b] => if i = j then none else some (.c (.u (tk part b (rest, 0#64) 64).2), H.set i (.own [.u (tk part b (rest, 0#64) 64).1]))
    | _, _ => none
  | _ => none


def uOf : Sc → BitVec 64
  | .u x => x
  | _ => 0#64
def wv (l : List Sc) (a : Nat) : Nat → BitVec 64
  | 0 => 0#64
  | k + 1 => wv l a k * 65536#64 + uOf (l.getD (a + (3 - k)) .any)


def oL (hi lo b : BitVec 64) : BitVec 64 := if b = 0#64 then 0#64 else (tk lo b ((tk hi b (0#64, 0#64) 64).1, 0#64) 64).2

end
end Go.Proofs.YtcbhelkafelofaaGreat
namespace Go.Proofs.YtcbhelkafelofaaGreat
open Go.Am
set_option linter.unusedSimpArgs false
set_option linter.unusedVariables false
noncomputable section

end
end Go.Proofs.YtcbhelkafelofaaGreat
namespace Go.Proofs.YtcbhelkafelofaaGreat
open Go.Am
set_option linter.unusedSimpArgs false
set_option linter.unusedVariables false
noncomputable section

end
end Go.Proofs.YtcbhelkafelofaaGreat
namespace Go.Proofs.YtcbhelkafelofaaGreat
open Go.Am
set_option linter.unusedSimpArgs false
set_option linter.unusedVariables false
noncomputable section

end
end Go.Proofs.YtcbhelkafelofaaGreat
namespace Go.Proofs.YtcbhelkafelofaaGreat
open Go.Am
set_option linter.unusedSimpArgs false
set_option linter.unusedVariables false
noncomputable section

end
end Go.Proofs.YtcbhelkafelofaaGreat
namespace Go.Proofs.YtcbhelkafelofaaGreat
open Go.Am
set_option linter.unusedSimpArgs false
set_option linter.unusedVariables false
noncomputable section

def valL : List Nat → Nat
  | [] => 0
  | d :: r => d + 65536 * valL r
def lc (l : List Nat) : List Sc := l.map fun d => .u (BitVec.ofNat 64 d)
def dg (w : BitVec 64) (i : Nat) : Nat := w.toNat / 65536 ^ i % 65536
def part (a b : BitVec 64) (i k : Nat) : Nat := a.toNat % 65536 ^ i * b.toNat + dg a i * 65536 ^ i * (b.toNat % 65536 ^ k)
structure Good (l : List Nat) : Prop where
  len : l.length = 8
  lt : ∀ j, l.getD j 0 < 65536
theorem Good.set {l : List Nat} (h : Good l) (i d : Nat) (hd : d < 65536) : Good (l.set i d) := by
  refine ⟨by simp [h.len], fun j => ?_⟩
  have := h.lt j
  rw [List.getD_eq_getElem?_getD] at this ⊢
  rw [List.getElem?_set]
  split
  · split
    · simpa using hd
    · simp
  · exact this
theorem words (l : List Nat) (h : Good l) : (wv (lc l) 4 4).toNat * 18446744073709551616 + (wv (lc l) 0 4).toNat = valL l := by
  obtain ⟨hl, hlt⟩ := h
  match l, hl with
  | [d0, d1, d2, d3, d4, d5, d6, d7], _ =>
    have h0 := hlt 0; have h1 := hlt 1; have h2 := hlt 2; have h3 := hlt 3
    have h4 := hlt 4; have h5 := hlt 5; have h6 := hlt 6; have h7 := hlt 7
    simp only [List.getD_cons_zero, List.getD_cons_succ] at h0 h1 h2 h3 h4 h5 h6 h7
    simp only [wv, lc, List.map_cons, List.map_nil, uOf, List.getD_cons_zero, List.getD_cons_succ, Nat.reduceAdd, Nat.reduceSub, Nat.sub_zero, Nat.sub_self, Nat.add_zero, Nat.zero_add, BitVec.toNat_add, BitVec.toNat_mul, BitVec.toNat_ofNat, valL, Nat.reducePow, Nat.reduceMod, Nat.zero_mod, Nat.zero_mul]
    omega

end
end Go.Proofs.YtcbhelkafelofaaGreat
namespace Go.Proofs.YtcbhelkafelofaaGreat
open Go.Am
set_option linter.unusedSimpArgs false
set_option linter.unusedVariables false
noncomputable section

def nmB : List (List UInt8) := [
  [],
  [108, 117, 105],
  [97, 117, 105, 112, 99],
  [106, 97, 108],
  [106, 97, 108, 114],
  [98, 101, 113],
  [98, 110, 101],
  [98, 108, 116],
  [98, 103, 101],
  [98, 108, 116, 117],
  [98, 103, 101, 117],
  [108, 98],
  [108, 104],
  [108, 119],
  [108, 100],
  [108, 98, 117],
  [108, 104, 117],
  [108, 119, 117],
  [115, 98],
  [115, 104],
  [115, 119],
  [115, 100],
  [97, 100, 100, 105],
  [115, 108, 116, 105],
  [115, 108, 116, 105, 117],
  [120, 111, 114, 105],
  [111, 114, 105],
  [97, 110, 100, 105],
  [115, 108, 108, 105],
  [115, 114, 108, 105],
  [115, 114, 97, 105],
  [97, 100, 100],
  [115, 117, 98],
  [115, 108, 108],
  [115, 108, 116],
  [115, 108, 116, 117],
  [120, 111, 114],
  [115, 114, 108],
  [115, 114, 97],
  [111, 114],
  [97, 110, 100],
  [97, 100, 100, 105, 119],
  [115, 108, 108, 105, 119],
  [115, 114, 108, 105, 119],
  [115, 114, 97, 105, 119],
  [97, 100, 100, 119],
  [115, 117, 98, 119],
  [115, 108, 108, 119],
  [115, 114, 108, 119],
  [115, 114, 97, 119],
  [102, 101, 110, 99, 101],
  [102, 101, 110, 99, 101, 46, 105],
  [101, 99, 97, 108, 108],
  [101, 98, 114, 101, 97, 107],
  [109, 117, 108],
  [109, 117, 108, 104],
  [109, 117, 108, 104, 115, 117],
  [109, 117, 108, 104, 117],
  [100, 105, 118],
  [100, 105, 118, 117],
  [114, 101, 109],
  [114, 101, 109, 117],
  [109, 117, 108, 119],
  [100, 105, 118, 119],
  [100, 105, 118, 117, 119],
  [114, 101, 109, 119],
  [114, 101, 109, 117, 119],
  [108, 114, 46, 119],
  [115, 99, 46, 119],
  [97, 109, 111, 115, 119, 97, 112, 46, 119],
  [97, 109, 111, 97, 100, 100, 46, 119],
  [97, 109, 111, 120, 111, 114, 46, 119],
  [97, 109, 111, 97, 110, 100, 46, 119],
  [97, 109, 111, 111, 114, 46, 119],
  [97, 109, 111, 109, 105, 110, 46, 119],
  [97, 109, 111, 109, 97, 120, 46, 119],
  [97, 109, 111, 109, 105, 110, 117, 46, 119],
  [97, 109, 111, 109, 97, 120, 117, 46, 119],
  [108, 114, 46, 100],
  [115, 99, 46, 100],
  [97, 109, 111, 115, 119, 97, 112, 46, 100],
  [97, 109, 111, 97, 100, 100, 46, 100],
  [97, 109, 111, 120, 111, 114, 46, 100],
  [97, 109, 111, 97, 110, 100, 46, 100],
  [97, 109, 111, 111, 114, 46, 100],
  [97, 109, 111, 109, 105, 110, 46, 100],
  [97, 109, 111, 109, 97, 120, 46, 100],
  [97, 109, 111, 109, 105, 110, 117, 46, 100],
  [97, 109, 111, 109, 97, 120, 117, 46, 100],
  [99, 115, 114, 114, 119],
  [99, 115, 114, 114, 115],
  [99, 115, 114, 114, 99],
  [99, 115, 114, 114, 119, 105],
  [99, 115, 114, 114, 115, 105],
  [99, 115, 114, 114, 99, 105],
  [109, 114, 101, 116],
  [115, 114, 101, 116],
  [119, 102, 105],
  [115, 102, 101, 110, 99, 101, 46, 118, 109, 97]]
def nm (k : Nat) : ByteArray := ⟨(nmB.getD k []).toArray⟩
def wiB (op a b : Int) : Bool := decide (a ≤ op) && decide (op ≤ b)
def s_within (args : List AV) : Option AV :=
  match args with
  | [.c (.i op), .c (.i a), .c (.i b)] => some (.c (.b (wiB op a b)))
  | _ => none
theorem s_within_eq {op a b} : s_within [.c (.i op), .c (.i a), .c (.i b)] = some (.c (.b (wiB op a b))) := rfl
set_option maxRecDepth 100000 in
set_option maxHeartbeats 2000000 in
theorem ok_within : PuOk Tryz.prog 142 s_within := by
  refine pu_ok (tab := []) hmix TabOk.nil Tryz.func142 rfl Tryz.results142 Tryz.ntmps142 (by kernel_rfl) (by kernel_rfl) ?_
  intro args v h
  unfold s_within at h
  split at h
  · rename_i op a b
    simp only [Option.some.injEq] at h; subst h
    refine ⟨by simp only [List.length_cons, List.length_nil]; decide, rfl, rfl, ?_⟩
    by_cases h1 : a ≤ op
    all_goals (try simp (config := { maxSteps := 10000000 }) only [go_sem, seval, wiB, h1]; repeat (simp (disch := omega) only [w64_d, ipos, ineg, dpos, dneg]; try simp (config := { maxSteps := 10000000 }) only [go_sem, seval, wiB, h1]))
  · simp at h
def classI (op : Int) : Int :=
  if wiB op 1 2 = true then 2 else if wiB op 3 4 = true then 3 else if wiB op 5 10 = true then 4 else if wiB op 11 17 = true then 5 else if wiB op 18 21 = true then 6 else
  if wiB op 22 49 = true then 1 else if wiB op 54 66 = true then 1 else if wiB op 50 51 = true then 9 else if wiB op 67 88 = true then 7 else if wiB op 89 94 = true then 8 else if wiB op 52 53 = true then 10 else if wiB op 95 98 = true then 10 else 0
def s_class (args : List AV) : Option AV :=
  match args with
  | [.c (.i op)] => some (.c (.i (classI op)))
  | _ => none
theorem s_class_eq {op} : s_class [.c (.i op)] = some (.c (.i (classI op))) := rfl
set_option maxRecDepth 100000 in
set_option maxHeartbeats 2000000 in
theorem ok_class : PuOk Tryz.prog 120 s_class := by
  refine pu_ok (tab := [(142, .pu s_within)]) hmix (TabOk.cons (e := .pu s_within) ok_within TabOk.nil) Tryz.func120 rfl Tryz.results120 Tryz.ntmps120 (by kernel_rfl) (by kernel_rfl) ?_
  intro args v h
  unfold s_class at h
  split at h
  · rename_i op
    simp only [Option.some.injEq] at h; subst h
    refine ⟨by simp only [List.length_cons, List.length_nil]; decide, rfl, rfl, ?_⟩
    (try simp (config := { maxSteps := 10000000 }) only [go_sem, seval, s_within_eq]; repeat (simp (disch := omega) only [w64_d, ipos, ineg, dpos, dneg]; try simp (config := { maxSteps := 10000000 }) only [go_sem, seval, s_within_eq]))
    repeat' (first
      | (refine cnd_by (fun h => ?_) (fun h => ?_) <;> (try simp only [decide_eq_true_eq, decide_eq_false_iff_not, Bool.not_eq_true', Bool.not_eq_false', Bool.not_eq_true, Bool.not_eq_false, Bool.and_eq_true, beq_iff_eq, beq_eq_false_iff_ne, ne_eq, Bool.or_eq_true] at h) <;> ((try simp (config := { maxSteps := 10000000 }) only [go_sem, seval, s_within_eq, h]; repeat (simp (disch := omega) only [w64_d, ipos, ineg, dpos, dneg]; try simp (config := { maxSteps := 10000000 }) only [go_sem, seval, s_within_eq, h]))))
      | (refine grd_by (fun h => ?_) (fun h => ?_) <;> (try simp only [decide_eq_true_eq, decide_eq_false_iff_not, Bool.not_eq_true', Bool.not_eq_false', Bool.not_eq_true, Bool.not_eq_false, Bool.and_eq_true, beq_iff_eq, beq_eq_false_iff_ne, ne_eq, Bool.or_eq_true] at h) <;> ((try simp (config := { maxSteps := 10000000 }) only [go_sem, seval, s_within_eq, h]; repeat (simp (disch := omega) only [w64_d, ipos, ineg, dpos, dneg]; try simp (config := { maxSteps := 10000000 }) only [go_sem, seval, s_within_eq, h]))))
      | (refine grdd_by (fun h => ?_) (fun h => ?_) <;> (try simp only [decide_eq_true_eq, decide_eq_false_iff_not, Bool.not_eq_true', Bool.not_eq_false', Bool.not_eq_true, Bool.not_eq_false, Bool.and_eq_true, beq_iff_eq, beq_eq_false_iff_ne, ne_eq, Bool.or_eq_true] at h) <;> ((try simp (config := { maxSteps := 10000000 }) only [go_sem, seval, s_within_eq, h]; repeat (simp (disch := omega) only [w64_d, ipos, ineg, dpos, dneg]; try simp (config := { maxSteps := 10000000 }) only [go_sem, seval, s_within_eq, h])))))
    all_goals simp only [classI, *, if_true, if_false, Bool.false_eq_true]
  · simp at h
def endsB (a b : ByteArray) : Bool := decide (b.size ≤ a.size) && decide (a.extract (a.size - b.size) a.size = b)

end
end Go.Proofs.YtcbhelkafelofaaGreat
namespace Go.Proofs.YtcbhelkafelofaaGreat
open Go.Am
set_option linter.unusedSimpArgs false
set_option linter.unusedVariables false
noncomputable section

def sizeI (op : Int) : Int :=
  if wiB op 67 77 = true then 4 else if wiB op 78 88 = true then 8 else
  if op = 11 then 1 else if op = 12 then 2 else if op = 13 then 4 else if op = 14 then 8 else if op = 15 then 1 else if op = 16 then 2 else if op = 17 then 4 else
  if op = 18 then 1 else if op = 19 then 2 else if op = 20 then 4 else if op = 21 then 8 else 0
theorem size_0 {op : Int} (h : ¬ (classI op = 5 ∨ classI op = 6 ∨ classI op = 7)) : sizeI op = 0 := by
  by_cases h0 : 1 ≤ op ∧ op ≤ 98
  · obtain ⟨k, rfl⟩ := Int.eq_ofNat_of_zero_le (by omega : 0 ≤ op)
    have : ∀ k : Nat, k < 99 → ¬ (classI k = 5 ∨ classI k = 6 ∨ classI k = 7) → sizeI k = 0 := by decide +kernel
    exact this k (by omega) h
  · simp only [sizeI, wiB, Bool.and_eq_true, decide_eq_true_eq]
    repeat rw [if_neg (by omega)]

end
end Go.Proofs.YtcbhelkafelofaaGreat
namespace Go.Proofs.YtcbhelkafelofaaGreat
open Go.Am
set_option linter.unusedSimpArgs false
set_option linter.unusedVariables false
noncomputable section

end
end Go.Proofs.YtcbhelkafelofaaGreat
namespace Go.Proofs.YtcbhelkafelofaaGreat
open Go.Am
set_option linter.unusedSimpArgs false
set_option linter.unusedVariables false
noncomputable section

end
end Go.Proofs.YtcbhelkafelofaaGreat
namespace Go.Proofs.YtcbhelkafelofaaGreat
open Go.Am
set_option linter.unusedSimpArgs false
set_option linter.unusedVariables false
noncomputable section

def linkB (op : Int) : Bool := if op = 67 then true else if op = 78 then true else false
def condB (op : Int) : Bool := if op = 68 then true else if op = 79 then true else false
def isAB (op : Int) : Bool := decide (classI op = 7) && (!linkB op && !condB op)
def s_alink (args : List AV) : Option AV :=
  match args with
  | [.c (.i op)] => some (.c (.b (linkB op)))
  | _ => none
theorem s_alink_eq {op} : s_alink [.c (.i op)] = some (.c (.b (linkB op))) := rfl
set_option maxRecDepth 100000 in
set_option maxHeartbeats 2000000 in
theorem ok_alink : PuOk Tryz.prog 77 s_alink := by
  refine pu_ok (tab := []) hmix TabOk.nil Tryz.func77 rfl Tryz.results77 Tryz.ntmps77 (by kernel_rfl) (by kernel_rfl) ?_
  intro args v h
  unfold s_alink at h
  split at h
  · rename_i op
    simp only [Option.some.injEq] at h; subst h
    refine ⟨by simp only [List.length_cons, List.length_nil]; decide, rfl, rfl, ?_⟩
    (try simp (config := { maxSteps := 10000000 }) only [go_sem, seval]; repeat (simp (disch := omega) only [w64_d, ipos, ineg, dpos, dneg]; try simp (config := { maxSteps := 10000000 }) only [go_sem, seval]))
    repeat' (first
      | (refine cnd_by (fun h => ?_) (fun h => ?_) <;> (try simp only [decide_eq_true_eq, decide_eq_false_iff_not, Bool.not_eq_true', Bool.not_eq_false', Bool.not_eq_true, Bool.not_eq_false, Bool.and_eq_true, beq_iff_eq, beq_eq_false_iff_ne, ne_eq, Bool.or_eq_true] at h) <;> ((try simp (config := { maxSteps := 10000000 }) only [go_sem, seval, h]; repeat (simp (disch := omega) only [w64_d, ipos, ineg, dpos, dneg]; try simp (config := { maxSteps := 10000000 }) only [go_sem, seval, h]))))
      | (refine grd_by (fun h => ?_) (fun h => ?_) <;> (try simp only [decide_eq_true_eq, decide_eq_false_iff_not, Bool.not_eq_true', Bool.not_eq_false', Bool.not_eq_true, Bool.not_eq_false, Bool.and_eq_true, beq_iff_eq, beq_eq_false_iff_ne, ne_eq, Bool.or_eq_true] at h) <;> ((try simp (config := { maxSteps := 10000000 }) only [go_sem, seval, h]; repeat (simp (disch := omega) only [w64_d, ipos, ineg, dpos, dneg]; try simp (config := { maxSteps := 10000000 }) only [go_sem, seval, h]))))
      | (refine grdd_by (fun h => ?_) (fun h => ?_) <;> (try simp only [decide_eq_true_eq, decide_eq_false_iff_not, Bool.not_eq_true', Bool.not_eq_false', Bool.not_eq_true, Bool.not_eq_false, Bool.and_eq_true, beq_iff_eq, beq_eq_false_iff_ne, ne_eq, Bool.or_eq_true] at h) <;> ((try simp (config := { maxSteps := 10000000 }) only [go_sem, seval, h]; repeat (simp (disch := omega) only [w64_d, ipos, ineg, dpos, dneg]; try simp (config := { maxSteps := 10000000 }) only [go_sem, seval, h])))))
    all_goals simp [linkB, *]
  · simp at h
def s_acond (args : List AV) : Option AV :=
  match args with
  | [.c (.i op)] => some (.c (.b (condB op)))
  | _ => none
theorem s_acond_eq {op} : s_acond [.c (.i op)] = some (.c (.b (condB op))) := rfl
set_option maxRecDepth 100000 in
set_option maxHeartbeats 2000000 in
theorem ok_acond : PuOk Tryz.prog 78 s_acond := by
  refine pu_ok (tab := []) hmix TabOk.nil Tryz.func78 rfl Tryz.results78 Tryz.ntmps78 (by kernel_rfl) (by kernel_rfl) ?_
  intro args v h
  unfold s_acond at h
  split at h
  · rename_i op
    simp only [Option.some.injEq] at h; subst h
    refine ⟨by simp only [List.length_cons, List.length_nil]; decide, rfl, rfl, ?_⟩
    (try simp (config := { maxSteps := 10000000 }) only [go_sem, seval]; repeat (simp (disch := omega) only [w64_d, ipos, ineg, dpos, dneg]; try simp (config := { maxSteps := 10000000 }) only [go_sem, seval]))
    repeat' (first
      | (refine cnd_by (fun h => ?_) (fun h => ?_) <;> (try simp only [decide_eq_true_eq, decide_eq_false_iff_not, Bool.not_eq_true', Bool.not_eq_false', Bool.not_eq_true, Bool.not_eq_false, Bool.and_eq_true, beq_iff_eq, beq_eq_false_iff_ne, ne_eq, Bool.or_eq_true] at h) <;> ((try simp (config := { maxSteps := 10000000 }) only [go_sem, seval, h]; repeat (simp (disch := omega) only [w64_d, ipos, ineg, dpos, dneg]; try simp (config := { maxSteps := 10000000 }) only [go_sem, seval, h]))))
      | (refine grd_by (fun h => ?_) (fun h => ?_) <;> (try simp only [decide_eq_true_eq, decide_eq_false_iff_not, Bool.not_eq_true', Bool.not_eq_false', Bool.not_eq_true, Bool.not_eq_false, Bool.and_eq_true, beq_iff_eq, beq_eq_false_iff_ne, ne_eq, Bool.or_eq_true] at h) <;> ((try simp (config := { maxSteps := 10000000 }) only [go_sem, seval, h]; repeat (simp (disch := omega) only [w64_d, ipos, ineg, dpos, dneg]; try simp (config := { maxSteps := 10000000 }) only [go_sem, seval, h]))))
      | (refine grdd_by (fun h => ?_) (fun h => ?_) <;> (try simp only [decide_eq_true_eq, decide_eq_false_iff_not, Bool.not_eq_true', Bool.not_eq_false', Bool.not_eq_true, Bool.not_eq_false, Bool.and_eq_true, beq_iff_eq, beq_eq_false_iff_ne, ne_eq, Bool.or_eq_true] at h) <;> ((try simp (config := { maxSteps := 10000000 }) only [go_sem, seval, h]; repeat (simp (disch := omega) only [w64_d, ipos, ineg, dpos, dneg]; try simp (config := { maxSteps := 10000000 }) only [go_sem, seval, h])))))
    all_goals simp [condB, *]
  · simp at h
def s_aisA (args : List AV) : Option AV :=
  match args with
  | [.c (.i op)] => some (.c (.b (isAB op)))
  | _ => none
theorem s_aisA_eq {op} : s_aisA [.c (.i op)] = some (.c (.b (isAB op))) := rfl
set_option maxRecDepth 100000 in
set_option maxHeartbeats 2000000 in
theorem ok_aisA : PuOk Tryz.prog 76 s_aisA := by
  refine pu_ok (tab := [(120, .pu s_class), (77, .pu s_alink), (78, .pu s_acond)]) hmix (TabOk.cons (e := .pu s_class) ok_class (TabOk.cons (e := .pu s_alink) ok_alink (TabOk.cons (e := .pu s_acond) ok_acond TabOk.nil))) Tryz.func76 rfl Tryz.results76 Tryz.ntmps76 (by kernel_rfl) (by kernel_rfl) ?_
  intro args v h
  unfold s_aisA at h
  split at h
  · rename_i op
    simp only [Option.some.injEq] at h; subst h
    refine ⟨by simp only [List.length_cons, List.length_nil]; decide, rfl, rfl, ?_⟩
    by_cases h : classI op = 7
    all_goals cases h1 : linkB op
    all_goals cases h2 : condB op
    all_goals (try simp (config := { maxSteps := 10000000 }) only [go_sem, seval, s_class_eq, s_alink_eq, s_acond_eq, isAB, h, h1, h2]; repeat (simp (disch := omega) only [w64_d, ipos, ineg, dpos, dneg]; try simp (config := { maxSteps := 10000000 }) only [go_sem, seval, s_class_eq, s_alink_eq, s_acond_eq, isAB, h, h1, h2]))
  · simp at h
def wideN (op : Int) : Int := if op < 78 then op + 11 else op
def sizeA (op : Int) : Int := if op < 78 then 32 else 64
def s_awide (args : List AV) : Option AV :=
  match args with
  | [.c (.i op)] => if inR op then some (.t [.c (.i (wideN op)), .c (.i (sizeA op))]) else none
  | _ => none
theorem s_awide_eq {op} : s_awide [.c (.i op)] = if inR op then some (.t [.c (.i (wideN op)), .c (.i (sizeA op))]) else none := rfl
set_option maxRecDepth 100000 in
set_option maxHeartbeats 2000000 in
theorem ok_awide : PuOk Tryz.prog 93 s_awide := by
  refine pu_ok (tab := []) hmix TabOk.nil Tryz.func93 rfl Tryz.results93 Tryz.ntmps93 (by kernel_rfl) (by kernel_rfl) ?_
  intro args v h
  unfold s_awide at h
  split at h
  · rename_i op
    split at h
    · rename_i hc
      simp only [Option.some.injEq] at h; subst h
      refine ⟨by simp only [List.length_cons, List.length_nil]; decide, rfl, rfl, ?_⟩
      obtain ⟨i1, i2⟩ := hc
      (try simp (config := { maxSteps := 10000000 }) only [go_sem, seval]; repeat (simp (disch := omega) only [w64_d, ipos, ineg, dpos, dneg]; try simp (config := { maxSteps := 10000000 }) only [go_sem, seval]))
      repeat' (first
        | (refine cnd_by (fun h => ?_) (fun h => ?_) <;> (try simp only [decide_eq_true_eq, decide_eq_false_iff_not, Bool.not_eq_true', Bool.not_eq_false', Bool.not_eq_true, Bool.not_eq_false, Bool.and_eq_true, beq_iff_eq, beq_eq_false_iff_ne, ne_eq, Bool.or_eq_true] at h) <;> ((try simp (config := { maxSteps := 10000000 }) only [go_sem, seval, h]; repeat (simp (disch := omega) only [w64_d, ipos, ineg, dpos, dneg]; try simp (config := { maxSteps := 10000000 }) only [go_sem, seval, h]))))
        | (refine grd_by (fun h => ?_) (fun h => ?_) <;> (try simp only [decide_eq_true_eq, decide_eq_false_iff_not, Bool.not_eq_true', Bool.not_eq_false', Bool.not_eq_true, Bool.not_eq_false, Bool.and_eq_true, beq_iff_eq, beq_eq_false_iff_ne, ne_eq, Bool.or_eq_true] at h) <;> ((try simp (config := { maxSteps := 10000000 }) only [go_sem, seval, h]; repeat (simp (disch := omega) only [w64_d, ipos, ineg, dpos, dneg]; try simp (config := { maxSteps := 10000000 }) only [go_sem, seval, h]))))
        | (refine grdd_by (fun h => ?_) (fun h => ?_) <;> (try simp only [decide_eq_true_eq, decide_eq_false_iff_not, Bool.not_eq_true', Bool.not_eq_false', Bool.not_eq_true, Bool.not_eq_false, Bool.and_eq_true, beq_iff_eq, beq_eq_false_iff_ne, ne_eq, Bool.or_eq_true] at h) <;> ((try simp (config := { maxSteps := 10000000 }) only [go_sem, seval, h]; repeat (simp (disch := omega) only [w64_d, ipos, ineg, dpos, dneg]; try simp (config := { maxSteps := 10000000 }) only [go_sem, seval, h])))))
      all_goals simp [wideN, sizeA, *]
      all_goals try (intro h; omega)
    · simp at h
  · simp at h
def lessI (a b : Int) (g : Bool) : Int := if decide (b < a) = g then a else b
def lessW (a b : BitVec 64) (g : Bool) : BitVec 64 := if decide (b < a) = g then a else b
def s_lesserI (args : List AV) : Option AV :=
  match args with
  | [.c (.i a), .c (.i b), .c (.b g)] => some (.c (.i (lessI a b g)))
  | _ => none
theorem s_lesserI_eq {a b g} : s_lesserI [.c (.i a), .c (.i b), .c (.b g)] = some (.c (.i (lessI a b g))) := rfl
set_option maxRecDepth 100000 in
set_option maxHeartbeats 2000000 in
theorem ok_lesserI : PuOk Tryz.prog 95 s_lesserI := by
  refine pu_ok (tab := []) hmix TabOk.nil Tryz.func95 rfl Tryz.results95 Tryz.ntmps95 (by kernel_rfl) (by kernel_rfl) ?_
  intro args v h
  unfold s_lesserI at h
  split at h
  · rename_i a b g
    simp only [Option.some.injEq] at h; subst h
    refine ⟨by simp only [List.length_cons, List.length_nil]; decide, rfl, rfl, ?_⟩
    by_cases h : b < a
    all_goals cases g
    all_goals (try simp (config := { maxSteps := 10000000 }) only [go_sem, seval, lessI, h]; repeat (simp (disch := omega) only [w64_d, ipos, ineg, dpos, dneg]; try simp (config := { maxSteps := 10000000 }) only [go_sem, seval, lessI, h]))
  · simp at h
def s_lesserW (args : List AV) : Option AV :=
  match args with
  | [.c (.u a), .c (.u b), .c (.b g)] => some (.c (.u (lessW a b g)))
  | _ => none
theorem s_lesserW_eq {a b g} : s_lesserW [.c (.u a), .c (.u b), .c (.b g)] = some (.c (.u (lessW a b g))) := rfl
set_option maxRecDepth 100000 in
set_option maxHeartbeats 2000000 in
theorem ok_lesserW : PuOk Tryz.prog 96 s_lesserW := by
  refine pu_ok (tab := []) hmix TabOk.nil Tryz.func96 rfl Tryz.results96 Tryz.ntmps96 (by kernel_rfl) (by kernel_rfl) ?_
  intro args v h
  unfold s_lesserW at h
  split at h
  · rename_i a b g
    simp only [Option.some.injEq] at h; subst h
    refine ⟨by simp only [List.length_cons, List.length_nil]; decide, rfl, rfl, ?_⟩
    by_cases h : b < a
    all_goals cases g
    all_goals (try simp (config := { maxSteps := 10000000 }) only [go_sem, seval, lessW, h]; repeat (simp (disch := omega) only [w64_d, ipos, ineg, dpos, dneg]; try simp (config := { maxSteps := 10000000 }) only [go_sem, seval, lessW, h]))
  · simp at h
theorem class_7 {op : Int} : (classI op = 7) = (67 ≤ op ∧ op ≤ 88) := by
  apply propext
  simp only [classI, wiB, Bool.and_eq_true, decide_eq_true_eq]
  repeat' split
  all_goals omega
theorem isA_eq {op : Int} : (isAB op = true) = ((69 ≤ op ∧ op ≤ 77) ∨ (80 ≤ op ∧ op ≤ 88)) := by
  apply propext
  simp only [isAB, class_7, linkB, condB, Bool.and_eq_true, Bool.not_eq_true', decide_eq_true_eq]
  repeat' split
  all_goals simp
  all_goals omega
def amoV (c s : Int) (m x : BitVec 64) : BitVec 64 :=
  if c = 80 then lowU x s else if c = 81 then lowU (lowU m s + lowU x s) s else if c = 82 then lowU m s ^^^ lowU x s else if c = 83 then lowU m s &&& lowU x s else if c = 84 then lowU m s ||| lowU x s else
  if c = 85 then (if (signU x s).toInt < (signU m s).toInt then lowU x s else lowU m s) else if c = 86 then (if (signU x s).toInt < (signU m s).toInt then lowU m s else lowU x s) else
  if c = 87 then (if lowU x s < lowU m s then lowU x s else lowU m s) else (if lowU x s < lowU m s then lowU m s else lowU x s)
def amoU (op : Int) (m x : BitVec 64) : BitVec 64 := if isAB op = true then amoV (wideN op) (sizeA op) m x else 0#64
theorem low_g (w : BitVec 64) (s : Int) (i : Nat) (hi : i < 64) : (lowU w s).getLsbD i = (decide ((i : Int) < s) && w.getLsbD i) := by unfold lowU; rw [ofG_get hi]
theorem ext64 {x y : BitVec 64} (h : ∀ i, i < 64 → x.getLsbD i = y.getLsbD i) : x = y := BitVec.eq_of_getLsbD_eq h
theorem sgn32 (w : BitVec 64) (i : Nat) (hi : i < 64) : (signU w 32).getLsbD i = if i < 32 then w.getLsbD i else w.getLsbD 31 := by
  unfold signU
  rw [ofG_get hi]
  have : bitB w (32 - 1) = w.getLsbD 31 := bitB_n (i := 31)
  simp only [show decide ((1 : Int) ≤ 32) = true from rfl, Bool.true_and, this, show ((i : Int) < 32) = (i < 32) from propext (by omega)]
theorem low_sign (w : BitVec 64) (s : Int) (h : s = 32 ∨ s = 64) : lowU (signU w s) s = lowU w s := by
  rcases h with rfl | rfl
  · refine ext64 fun i hi => ?_
    rw [low_g _ _ _ hi, low_g _ _ _ hi, sgn32 _ _ hi]
    by_cases h : i < 32
    · rw [if_pos h]
    · rw [decide_eq_false (by omega)]; rfl
  · rw [sign_all (by omega)]
theorem ofI_toI (w : BitVec 64) : BitVec.ofInt 64 w.toInt = w := BitVec.ofInt_toInt
theorem size_or (op : Int) : sizeA op = 32 ∨ sizeA op = 64 := by unfold sizeA; split <;> simp
theorem wide_c {op : Int} (h : isAB op = true) : 80 ≤ wideN op ∧ wideN op ≤ 88 := by rw [isA_eq] at h; unfold wideN; split <;> omega
theorem lessI_f (a b : Int) : lessI a b false = if b < a then b else a := by unfold lessI; by_cases h : b < a <;> simp [h]
theorem lessI_t (a b : Int) : lessI a b true = if b < a then a else b := by unfold lessI; by_cases h : b < a <;> simp [h]
theorem lessW_f (a b : BitVec 64) : lessW a b false = if b < a then b else a := by unfold lessW; by_cases h : b < a <;> simp [h]
theorem lessW_t (a b : BitVec 64) : lessW a b true = if b < a then a else b := by unfold lessW; by_cases h : b < a <;> simp [h]
def s_amoDo (args : List AV) : Option AV :=
  match args with
  | [.c (.i op), .c (.u m), .c (.u x)] => some (.t [.c (.u (amoU op m x)), .c (.b (isAB op))])
  | _ => none
theorem s_amoDo_eq {op m x} : s_amoDo [.c (.i op), .c (.u m), .c (.u x)] = some (.t [.c (.u (amoU op m x)), .c (.b (isAB op))]) := rfl
set_option maxRecDepth 100000 in
set_option maxHeartbeats 2000000 in
theorem ok_amoDo : PuOk Tryz.prog 52 s_amoDo := by
  refine pu_ok (tab := [(76, .pu s_aisA), (93, .pu s_awide), (64, .pu s_low), (94, .pu s_sign), (95, .pu s_lesserI), (96, .pu s_lesserW)]) hmix (TabOk.cons (e := .pu s_aisA) ok_aisA (TabOk.cons (e := .pu s_awide) ok_awide (TabOk.cons (e := .pu s_low) ok_low (TabOk.cons (e := .pu s_sign) ok_sign (TabOk.cons (e := .pu s_lesserI) ok_lesserI (TabOk.cons (e := .pu s_lesserW) ok_lesserW TabOk.nil)))))) Tryz.func52 rfl Tryz.results52 Tryz.ntmps52 (by kernel_rfl) (by kernel_rfl) ?_
  intro args v h
  unfold s_amoDo at h
  split at h
  · rename_i op m x
    simp only [Option.some.injEq] at h; subst h
    refine ⟨by simp only [List.length_cons, List.length_nil]; decide, rfl, rfl, ?_⟩
    cases h : isAB op
    · (try simp (config := { maxSteps := 10000000 }) only [go_sem, seval, s_aisA_eq, s_awide_eq, s_low_eq, s_sign_eq, s_lesserI_eq, s_lesserW_eq, h, amoU]; repeat (simp (disch := omega) only [w64_d, ipos, ineg, dpos, dneg]; try simp (config := { maxSteps := 10000000 }) only [go_sem, seval, s_aisA_eq, s_awide_eq, s_low_eq, s_sign_eq, s_lesserI_eq, s_lesserW_eq, h, amoU]))
    · have hs := size_or op
      obtain ⟨c1, c2⟩ := wide_c h
      have hr : inR op := by rw [isA_eq] at h; exact ⟨by omega, by omega⟩
      have i1 : inR (sizeA op) := by rcases hs with e | e <;> rw [e] <;> exact ⟨by omega, by omega⟩
      have e : amoU op m x = amoV (wideN op) (sizeA op) m x := if_pos h
      rw [e]
      (try simp (config := { maxSteps := 10000000 }) only [go_sem, seval, s_aisA_eq, s_awide_eq, s_low_eq, s_sign_eq, s_lesserI_eq, s_lesserW_eq, h, hr, i1]; repeat (simp (disch := omega) only [w64_d, ipos, ineg, dpos, dneg]; try simp (config := { maxSteps := 10000000 }) only [go_sem, seval, s_aisA_eq, s_awide_eq, s_low_eq, s_sign_eq, s_lesserI_eq, s_lesserW_eq, h, hr, i1]))
      generalize wideN op = c at c1 c2
      generalize sizeA op = s at hs i1
      repeat' (first
        | (refine cnd_by (fun h => ?_) (fun h => ?_) <;> (try simp only [decide_eq_true_eq, decide_eq_false_iff_not, Bool.not_eq_true', Bool.not_eq_false', Bool.not_eq_true, Bool.not_eq_false, Bool.and_eq_true, beq_iff_eq, beq_eq_false_iff_ne, ne_eq, Bool.or_eq_true] at h) <;> ((try simp (config := { maxSteps := 10000000 }) only [go_sem, seval, s_aisA_eq, s_awide_eq, s_low_eq, s_sign_eq, s_lesserI_eq, s_lesserW_eq, i1, lessI_f, lessI_t, lessW_f, lessW_t, h]; repeat (simp (disch := omega) only [w64_d, ipos, ineg, dpos, dneg]; try simp (config := { maxSteps := 10000000 }) only [go_sem, seval, s_aisA_eq, s_awide_eq, s_low_eq, s_sign_eq, s_lesserI_eq, s_lesserW_eq, i1, lessI_f, lessI_t, lessW_f, lessW_t, h]))))
        | (refine grd_by (fun h => ?_) (fun h => ?_) <;> (try simp only [decide_eq_true_eq, decide_eq_false_iff_not, Bool.not_eq_true', Bool.not_eq_false', Bool.not_eq_true, Bool.not_eq_false, Bool.and_eq_true, beq_iff_eq, beq_eq_false_iff_ne, ne_eq, Bool.or_eq_true] at h) <;> ((try simp (config := { maxSteps := 10000000 }) only [go_sem, seval, s_aisA_eq, s_awide_eq, s_low_eq, s_sign_eq, s_lesserI_eq, s_lesserW_eq, i1, lessI_f, lessI_t, lessW_f, lessW_t, h]; repeat (simp (disch := omega) only [w64_d, ipos, ineg, dpos, dneg]; try simp (config := { maxSteps := 10000000 }) only [go_sem, seval, s_aisA_eq, s_awide_eq, s_low_eq, s_sign_eq, s_lesserI_eq, s_lesserW_eq, i1, lessI_f, lessI_t, lessW_f, lessW_t, h]))))
        | (refine grdd_by (fun h => ?_) (fun h => ?_) <;> (try simp only [decide_eq_true_eq, decide_eq_false_iff_not, Bool.not_eq_true', Bool.not_eq_false', Bool.not_eq_true, Bool.not_eq_false, Bool.and_eq_true, beq_iff_eq, beq_eq_false_iff_ne, ne_eq, Bool.or_eq_true] at h) <;> ((try simp (config := { maxSteps := 10000000 }) only [go_sem, seval, s_aisA_eq, s_awide_eq, s_low_eq, s_sign_eq, s_lesserI_eq, s_lesserW_eq, i1, lessI_f, lessI_t, lessW_f, lessW_t, h]; repeat (simp (disch := omega) only [w64_d, ipos, ineg, dpos, dneg]; try simp (config := { maxSteps := 10000000 }) only [go_sem, seval, s_aisA_eq, s_awide_eq, s_low_eq, s_sign_eq, s_lesserI_eq, s_lesserW_eq, i1, lessI_f, lessI_t, lessW_f, lessW_t, h])))))
      all_goals first | (simp [amoV, *]; done) | skip
      all_goals first | (by_cases hx : (signU x s).toInt < (signU m s).toInt <;> simp [amoV, ofI_toI, low_sign _ _ hs, *]; done) | skip
      all_goals (have hc : c = 87 ∨ c = 88 := by omega)
      all_goals (rcases hc with rfl | rfl <;> by_cases hx : lowU x s < lowU m s <;> simp [amoV, lessW, *])
  · simp at h


end
end Go.Proofs.YtcbhelkafelofaaGreat
