/- The controller of a bus: the best that waits: contracts. -/
import Derived.Test.YtfddaaplnnlfoaaQ6
namespace Go.Proofs.Ytfddaaplnnlfoaa
open Go.Am
set_option linter.unusedSimpArgs false
set_option linter.unusedVariables false
noncomputable section
attribute [go_sem 1100] c32_and c32_or c32_an
attribute [go_sem] ofInt_w32

def s_pbit (args : List AV) : Option AV :=
  match args with
  | [.c (.i n)] => if 0 ≤ n ∧ n ≤ 31 then some (.c (w32 (bitK n.toNat))) else none
  | _ => none
theorem s_pbit_eq {n} : s_pbit [.c (.i n)] = if 0 ≤ n ∧ n ≤ 31 then some (.c (w32 (bitK n.toNat))) else none := rfl
set_option maxRecDepth 100000 in
set_option maxHeartbeats 2000000 in
theorem ok_pbit : PuOk Try.prog 68 s_pbit := by
  refine pu_ok (tab := []) hmix TabOk.nil Try.func68 rfl Try.results68 Try.ntmps68 (by kernel_rfl) (by kernel_rfl) ?_
  intro args v h
  unfold s_pbit at h
  split at h
  · rename_i n
    split at h
    · rename_i hc
      simp only [Option.some.injEq] at h; subst h
      refine ⟨by simp only [List.length_cons, List.length_nil]; decide, rfl, rfl, ?_⟩
      obtain ⟨c0, c1⟩ := hc
      obtain ⟨k, rfl⟩ : ∃ k : Nat, n = (k : Int) := ⟨n.toNat, by omega⟩
      have e : (BitVec.ofInt 64 (k : Int)).toNat = k := by rw [BitVec.toNat_ofInt]; omega
      have e5 : IntKind.u32.wrap (1 * 2 ^ min k 32) = ((bitK k).toNat : Int) := by
        have : k = 0 ∨ k = 1 ∨ k = 2 ∨ k = 3 ∨ k = 4 ∨ k = 5 ∨ k = 6 ∨ k = 7 ∨ k = 8 ∨ k = 9 ∨ k = 10 ∨ k = 11 ∨ k = 12 ∨ k = 13 ∨ k = 14 ∨ k = 15 ∨ k = 16 ∨ k = 17 ∨ k = 18 ∨ k = 19 ∨ k = 20 ∨ k = 21 ∨ k = 22 ∨ k = 23 ∨ k = 24 ∨ k = 25 ∨ k = 26 ∨ k = 27 ∨ k = 28 ∨ k = 29 ∨ k = 30 ∨ k = 31 := by omega
        rcases this with rfl | rfl | rfl | rfl | rfl | rfl | rfl | rfl | rfl | rfl | rfl | rfl | rfl | rfl | rfl | rfl | rfl | rfl | rfl | rfl | rfl | rfl | rfl | rfl | rfl | rfl | rfl | rfl | rfl | rfl | rfl | rfl <;> rfl
      (try simp (config := { maxSteps := 10000000 }) only [go_sem, seval, e, e5, w32, Int.toNat_natCast]; repeat (simp (disch := omega) only [w64_d, ipos, ineg, dpos, dneg]; try simp (config := { maxSteps := 10000000 }) only [go_sem, seval, e, e5, w32, Int.toNat_natCast]))
    · simp at h
  · simp at h
noncomputable def s_pbest (args : List AV) (H : AH) : Option AV :=
  match args with
  | [.c x, .c (.k .u32 am), .c (.k .u8 ab)] => if 0 ≤ am ∧ am ≤ 4294967295 then (pkQ H x).map fun c => .c (.i (bstN c.p (BitVec.ofInt 32 am) ab 31 : Nat)) else none
  | _ => none
theorem s_pbest_eq {H : AH} {x : Sc} {c : Pk} (h : pkQ H x = some c) {am : BitVec 32} {ab : Int} : s_pbest [.c x, .c (.k .u32 (am.toNat : Int)), .c (.k .u8 ab)] H = some (.c (.i (bstN c.p am ab 31 : Nat))) := by
  have := am.isLt
  simp only [s_pbest, h, Option.map_some, ofInt_w32]
  rw [if_pos (by omega)]
theorem shr_w32 (A : BitVec 32) {i : Nat} (hi : i < 32) : ((A.toNat : Int) / 2 ^ min i 32) = ((A >>> i).toNat : Int) := by
  rw [Nat.min_eq_left (by omega), BitVec.toNat_ushiftRight, Nat.shiftRight_eq_div_pow]
  simp
theorem one_w32 (A : BitVec 32) : ((A.toNat : Int) = 1) = (A = 1#32) := propext ⟨fun h => BitVec.eq_of_toNat_eq (by show _ = 1; omega), fun h => by rw [h]; rfl⟩
set_option maxRecDepth 100000 in
set_option maxHeartbeats 2000000 in
theorem ok_pbest : FpOk Try.prog 71 (fun args H => (s_pbest args H).map fun v => (v, H)) := by
  refine fq_ok (s := s_pbest) (tab := []) hmix TabOk.nil Try.func71 rfl Try.results71 Try.ntmps71 (by kernel_rfl) (by kernel_rfl) ?_
  intro args H v h hargs hH
  unfold s_pbest at h
  split at h
  · rename_i x am ab
    split at h
    · rename_i ha
      rw [Option.map_eq_some_iff] at h
      obtain ⟨c, hc, rfl⟩ := h
      obtain ⟨A, rfl⟩ : ∃ A : BitVec 32, am = (A.toNat : Int) := ⟨BitVec.ofInt 32 am, by rw [BitVec.toNat_ofInt]; omega⟩
      rw [ofInt_w32]
      obtain ⟨id, o, cs, F, rfl, ck⟩ := pkQ_is hc
      have lid := ck.lid
      have ho := ck.ho
      have q := ck.q
      refine ⟨by simp only [List.length_cons, List.length_nil]; decide, rfl, ?_⟩
      (try simp (config := { maxSteps := 10000000 }) only [go_sem, seval]; repeat (simp (disch := omega) only [w64_d, ipos, ineg, dpos, dneg]; try simp (config := { maxSteps := 10000000 }) only [go_sem, seval]))
      refine arun_for 31 (fun i => ([(0, .c (.p id o 0)), (1, .c (.k .u32 (A.toNat : Int))), (2, .c (.k .u8 ab)), (7, .c (.i (bstN c.p A ab i : Nat))), (8, .c (.i (i + 1)))], H)) (Wk.fq (by simp [Am.get, bstN])) fun i hi => ?_
      by_cases hlt : i < 31
      · have e0 : (i : Int) + 1 < 32 := by omega
        have e1 : w64 ((i : Int) + 1 + 1) = ((i + 1 : Nat) : Int) + 1 := by rw [w64_d (by omega) (by omega)]; omega
        have e2 : (BitVec.ofInt 64 ((i : Int) + 1)).toNat = i + 1 := by rw [BitVec.toNat_ofInt]; omega
        have e3 : ((i : Int) + 1).toNat = i + 1 := by omega
        have d1 : cs.getD (o + 1 + (i + 1)) .any = .k .u8 (c.p.getD (i + 1) 0) := ck.dp (i + 1) (by omega)
        have hb := bstN_le (p := c.p) (am := A) (ab := ab) i
        have d2 : cs.getD (o + 1 + bstN c.p A ab i) .any = .k .u8 (c.p.getD (bstN c.p A ab i) 0) := ck.dp _ (by omega)
        have er := shr_w32 A (i := i + 1) (by omega)
        have eb := one_w32 (A >>> (i + 1) &&& 1#32)
        have eS : bstN c.p A ab (i + 1) = if (eliB c.p A ab (i + 1) && (decide (bstN c.p A ab i = 0) || decide (c.p.getD (bstN c.p A ab i) 0 < c.p.getD (i + 1) 0))) = true then i + 1 else bstN c.p A ab i := rfl
        unfold eliB at eS
        have cz : ((bstN c.p A ab i : Int) = 0) = (bstN c.p A ab i = 0) := propext (by omega)
        generalize hB : bstN c.p A ab i = B at *
        rcases Classical.propComplete (A >>> (i + 1) &&& 1#32 = 1#32) with E | E
        · rw [E] at eb
          rcases Classical.propComplete (ab < c.p.getD (i + 1) 0) with g | g
          · rcases Classical.propComplete (B = 0) with z | z
            · rw [z] at cz
              simp only [E, g, z, decide_true, Bool.true_and, Bool.true_or, if_true] at eS
              (try simp (config := { maxSteps := 10000000 }) only [go_sem, seval, e0, e1, e2, e3, ho, d1, er, eb, g, cz]; repeat (simp (disch := omega) only [w64_d, ipos, ineg, dpos, dneg]; try simp (config := { maxSteps := 10000000 }) only [go_sem, seval, e0, e1, e2, e3, ho, d1, er, eb, g, cz]))
              exact ⟨i + 1, by omega, by omega, Wk.fq (by simp [Am.get, eS])⟩
            · rw [z] at cz
              rcases Classical.propComplete (c.p.getD B 0 < c.p.getD (i + 1) 0) with t | t
              all_goals simp only [E, g, z, t, decide_true, decide_false, Bool.true_and, Bool.false_or, Bool.and_true, Bool.and_false, if_true, if_false, Bool.false_eq_true] at eS
              all_goals (try simp (config := { maxSteps := 10000000 }) only [go_sem, seval, e0, e1, e2, e3, ho, d1, d2, er, eb, g, cz, t, Int.toNat_natCast]; repeat (simp (disch := omega) only [w64_d, ipos, ineg, dpos, dneg]; try simp (config := { maxSteps := 10000000 }) only [go_sem, seval, e0, e1, e2, e3, ho, d1, d2, er, eb, g, cz, t, Int.toNat_natCast]))
              all_goals exact ⟨i + 1, by omega, by omega, Wk.fq (by simp [Am.get, eS])⟩
          · simp only [E, g, decide_true, decide_false, Bool.true_and, Bool.false_and, Bool.and_false, if_false, Bool.false_eq_true] at eS
            (try simp (config := { maxSteps := 10000000 }) only [go_sem, seval, e0, e1, e2, e3, ho, d1, er, eb, g]; repeat (simp (disch := omega) only [w64_d, ipos, ineg, dpos, dneg]; try simp (config := { maxSteps := 10000000 }) only [go_sem, seval, e0, e1, e2, e3, ho, d1, er, eb, g]))
            exact ⟨i + 1, by omega, by omega, Wk.fq (by simp [Am.get, eS])⟩
        · rw [E] at eb
          simp only [E, decide_false, Bool.false_and, if_false, Bool.false_eq_true] at eS
          (try simp (config := { maxSteps := 10000000 }) only [go_sem, seval, e0, e1, e2, e3, ho, er, eb]; repeat (simp (disch := omega) only [w64_d, ipos, ineg, dpos, dneg]; try simp (config := { maxSteps := 10000000 }) only [go_sem, seval, e0, e1, e2, e3, ho, er, eb]))
          exact ⟨i + 1, by omega, by omega, Wk.fq (by simp [Am.get, eS])⟩
      · obtain rfl : i = 31 := by omega
        (try simp (config := { maxSteps := 10000000 }) only [go_sem, seval]; repeat (simp (disch := omega) only [w64_d, ipos, ineg, dpos, dneg]; try simp (config := { maxSteps := 10000000 }) only [go_sem, seval]))
        exact subH_refl _
    · simp at h
  · simp at h
end
end Go.Proofs.Ytfddaaplnnlfoaa
