/- Layers 15, 16, 18: where a register stands, in the document: contracts. -/
import Derived.Test.YtfddaaplnnlfoaaBsC
namespace Go.Proofs.Ytfddaaplnnlfoaa
open Go.Am
set_option linter.unusedSimpArgs false
set_option linter.unusedVariables false
noncomputable section

/-! ## XBf1 -/
section
theorem off_eq {off : BitVec 64} {x : Nat} (hx : x < 18446744073709551616) : (off = BitVec.ofInt 64 (x : Int)) = (off.toNat = x) := by
  have e : (BitVec.ofInt 64 (x : Int)).toNat = x := by rw [BitVec.toNat_ofInt]; omega
  exact propext ⟨fun h => by rw [h, e], fun h => BitVec.eq_of_toNat_eq (by rw [e, h])⟩
theorem off_eq4 {off : BitVec 64} {x : Nat} (hx : x < 1000000) : (off = BitVec.ofInt 64 (x : Int) + 4#64) = (off.toNat = x + 4) := by
  have e : (BitVec.ofInt 64 (x : Int) + 4#64).toNat = x + 4 := by
    rw [BitVec.toNat_add, BitVec.toNat_ofInt, show (4#64).toNat = 4 from rfl]; omega
  exact propext ⟨fun h => by rw [h, e], fun h => BitVec.eq_of_toNat_eq (by rw [e, h])⟩
theorem off_lit {off : BitVec 64} {x : Nat} (hx : x < 18446744073709551616) : (off = BitVec.ofNat 64 x) = (off.toNat = x) := by
  have e : (BitVec.ofNat 64 x).toNat = x := by rw [BitVec.toNat_ofNat]; omega
  exact propext ⟨fun h => by rw [h, e], fun h => BitVec.eq_of_toNat_eq (by rw [e, h])⟩
theorem offi {off : BitVec 64} {x : Int} (h0 : 0 ≤ x) (h1 : x < 10000000) : (off = BitVec.ofInt 64 x) = ((off.toNat : Int) = x) := by
  obtain ⟨k, rfl⟩ : ∃ k : Nat, x = (k : Int) := ⟨x.toNat, by omega⟩
  rw [off_eq (by omega)]
  exact propext (by omega)
theorem offi4 {off : BitVec 64} {x : Int} (h0 : 0 ≤ x) (h1 : x < 1000000) : (off = BitVec.ofInt 64 x + 4#64) = ((off.toNat : Int) = x + 4) := by
  obtain ⟨k, rfl⟩ : ∃ k : Nat, x = (k : Int) := ⟨x.toNat, by omega⟩
  rw [off_eq4 (by omega)]
  exact propext (by omega)
/-- what may stand there -/
inductive CkC (n : Int) (m : Nat) (sz : Int) (a : Ca) : Prop where
  | c1 (h : Nat) (hn : (h : Int) < n) (hs : sz = 4) (hm : m = 4 * h) (ha : a = ⟨1, h, 0#64⟩)
  | c2 (h : Nat) (hn : (h : Int) < n) (hs : sz = 8) (hm : m = 16384 + 8 * h) (ha : a = ⟨2, h, 0#64⟩)
  | c3 (h : Nat) (hn : (h : Int) < n) (hs : sz = 4) (hm : m = 16384 + 8 * h) (ha : a = ⟨2, h, 0#64⟩)
  | c4 (h : Nat) (hn : (h : Int) < n) (hs : sz = 4) (hm : m = 16384 + 8 * h + 4) (ha : a = ⟨2, h, 32#64⟩)
  | c5 (hs : sz = 8) (hm : m = 49144) (ha : a = ⟨3, 0, 0#64⟩)
  | c6 (hs : sz = 4) (hm : m = 49144) (ha : a = ⟨3, 0, 0#64⟩)
  | c7 (hs : sz = 4) (hm : m = 49148) (ha : a = ⟨3, 0, 32#64⟩)
  | c0 (ha : a = ⟨0, 0, 0#64⟩) (h4 : sz = 4 → m ≠ 49144 ∧ m ≠ 49148 ∧ ∀ h : Nat, (h : Int) < n → m ≠ 4 * h ∧ m ≠ 16384 + 8 * h ∧ m ≠ 16384 + 8 * h + 4) (h8 : sz = 8 → m ≠ 49144 ∧ ∀ h : Nat, (h : Int) < n → m ≠ 16384 + 8 * h)
theorem bv_e {a b : BitVec 64} (h : a.toNat = b.toNat) : a = b := BitVec.eq_of_toNat_eq h
theorem ck_cases {n : Int} (n0 : 1 ≤ n) (n1 : n ≤ 8) (off : BitVec 64) (sz : Int) : CkC n off.toNat sz (ckAt n off sz) := by
  have en : (BitVec.ofInt 64 n).toNat = n.toNat := of_small (by omega) n1
  have e4 : (4#64).toNat = 4 := rfl
  have e8 : (8#64).toNat = 8 := rfl
  have ez : (0#64).toNat = 0 := rfl
  have m4 : (off % 4#64).toNat = off.toNat % 4 := by rw [BitVec.toNat_umod, e4]
  have d4 : (off / 4#64).toNat = off.toNat / 4 := by rw [BitVec.toNat_udiv, e4]
  have m8 : (off % 8#64).toNat = off.toNat % 8 := by rw [BitVec.toNat_umod, e8]
  have s8 : (off - off % 8#64).toNat = off.toNat - off.toNat % 8 := by rw [BitVec.toNat_sub, m8]; have := off.isLt; omega
  have up : (off % 8#64 * 8#64).toNat = off.toNat % 8 * 8 := by rw [BitVec.toNat_mul, m8, e8]; omega
  have hh : 16384#64 ≤ off - off % 8#64 → ((off - off % 8#64 - 16384#64) / 8#64).toNat = (off.toNat - off.toNat % 8 - 16384) / 8 := fun g => by
    rw [BitVec.le_def, s8, show (16384#64).toNat = 16384 from rfl] at g
    rw [BitVec.toNat_udiv, BitVec.toNat_sub, s8, e8, show (16384#64).toNat = 16384 from rfl]
    have := off.isLt
    omega
  have q1 : (off % 4#64 = 0#64) = (off.toNat % 4 = 0) := propext ⟨fun h => by rw [← m4, h]; rfl, fun h => bv_e (by rw [m4, ez, h])⟩
  have q2 : (off / 4#64 < BitVec.ofInt 64 n) = (off.toNat / 4 < n.toNat) := by rw [BitVec.lt_def, d4, en]
  have q3 : (off % 8#64 = 0#64) = (off.toNat % 8 = 0) := propext ⟨fun h => by rw [← m8, h]; rfl, fun h => bv_e (by rw [m8, ez, h])⟩
  have q4 : (0#64 < BitVec.ofInt 64 n) = True := eq_true (by rw [BitVec.lt_def, en, ez]; omega)
  have q5 : (off - off % 8#64 = 49144#64) = (off.toNat - off.toNat % 8 = 49144) := by rw [off_lit (by decide), s8]
  have q6 : (16384#64 ≤ off - off % 8#64) = (16384 ≤ off.toNat - off.toNat % 8) := by rw [BitVec.le_def, s8]; rfl
  have q7 : (off - off % 8#64 < 16384#64 + 8#64 * BitVec.ofInt 64 n) = (off.toNat - off.toNat % 8 < 16384 + 8 * n.toNat) := by
    rw [BitVec.lt_def, s8, BitVec.toNat_add, BitVec.toNat_mul, en, e8, show (16384#64).toNat = 16384 from rfl]
    rw [show (16384 + 8 * n.toNat % 2 ^ 64) % 2 ^ 64 = 16384 + 8 * n.toNat by omega]
  have qb : sz = 4 ∨ sz = 8 → (off % BitVec.ofInt 64 sz = 0#64) = (off.toNat % sz.toNat = 0) := by
    rintro (rfl | rfl)
    · exact q1
    · exact q3
  generalize hm : off.toNat = m at *
  unfold ckAt
  simp only [q1, q2, q4, q5, q6, q7, true_and]
  by_cases h4 : sz = 4
  · simp only [qb (.inl h4)]
    subst h4
    by_cases a1 : m % 4 = 0
    · by_cases a2 : m / 4 < n.toNat
      · rw [if_pos ⟨rfl, a1, a2⟩]
        exact .c1 (m / 4) (by omega) rfl (by omega) (by rw [d4])
      · rw [if_neg (fun h => a2 h.2.2), if_neg (by simp; omega)]
        by_cases a3 : m - m % 8 = 49144
        · rw [if_pos a3]
          have : m = 49144 ∨ m = 49148 := by omega
          rcases this with h | h
          · exact .c6 rfl h (by congr 1; exact bv_e (by rw [up, h]; rfl))
          · exact .c7 rfl h (by congr 1; exact bv_e (by rw [up, h]; rfl))
        · rw [if_neg a3]
          by_cases a4 : 16384 ≤ m - m % 8 ∧ m - m % 8 < 16384 + 8 * n.toNat
          · rw [if_pos a4]
            have g := hh (by rw [q6]; exact a4.1)
            have : m % 8 = 0 ∨ m % 8 = 4 := by omega
            rcases this with h | h
            · exact .c3 ((m - m % 8 - 16384) / 8) (by omega) rfl (by omega) (by rw [g]; congr 1; exact bv_e (by rw [up, h]; rfl))
            · exact .c4 ((m - m % 8 - 16384) / 8) (by omega) rfl (by omega) (by rw [g]; congr 1; exact bv_e (by rw [up, h]; rfl))
          · rw [if_neg a4]
            exact .c0 rfl (fun _ => ⟨by omega, by omega, fun h hn => ⟨by omega, by omega, by omega⟩⟩) (fun h => by omega)
    · rw [if_neg (fun h => a1 h.2.1), if_pos (.inr a1)]
      exact .c0 rfl (fun _ => ⟨by omega, by omega, fun h hn => ⟨by omega, by omega, by omega⟩⟩) (fun h => by omega)
  · rw [if_neg (fun h => h4 h.1)]
    by_cases h8 : sz = 8
    · simp only [qb (.inr h8)]
      subst h8
      by_cases a1 : m % 8 = 0
      · rw [if_neg (by simp; omega)]
        by_cases a3 : m - m % 8 = 49144
        · rw [if_pos a3]
          exact .c5 rfl (by omega) (by congr 1; exact bv_e (by rw [up, a1]; rfl))
        · rw [if_neg a3]
          by_cases a4 : 16384 ≤ m - m % 8 ∧ m - m % 8 < 16384 + 8 * n.toNat
          · rw [if_pos a4]
            have g := hh (by rw [q6]; exact a4.1)
            exact .c2 ((m - m % 8 - 16384) / 8) (by omega) rfl (by omega) (by rw [g]; congr 1; exact bv_e (by rw [up, a1]; rfl))
          · rw [if_neg a4]
            exact .c0 rfl (fun h => by omega) (fun _ => ⟨by omega, fun h hn => by omega⟩)
      · rw [if_pos (.inr a1)]
        exact .c0 rfl (fun h => by omega) (fun _ => ⟨by omega, fun h hn => by omega⟩)
    · rw [if_pos (.inl ⟨h4, h8⟩)]
      exact .c0 rfl (fun h => absurd h h4) (fun h => absurd h h8)
def bitsC (sz : Int) (a : Ca) : Int := if a.k = 2 ∨ a.k = 3 then (if sz = 8 then 0 else if a.up = 0#64 then 1 else 2) else 0
def s_rat15 (args : List AV) : Option AV :=
  match args with
  | [.c (.i n), .c (.u off), .c (.i sz)] => if 1 ≤ n ∧ n ≤ 8 then some (.t [.c (.i ((ckAt n off sz).k : Int)), .c (.i ((ckAt n off sz).h : Int)), .c (.i (bitsC sz (ckAt n off sz)))]) else none
  | _ => none
theorem s_rat15_eq {n off sz} : s_rat15 [.c (.i n), .c (.u off), .c (.i sz)] = if 1 ≤ n ∧ n ≤ 8 then some (.t [.c (.i ((ckAt n off sz).k : Int)), .c (.i ((ckAt n off sz).h : Int)), .c (.i (bitsC sz (ckAt n off sz)))]) else none := rfl
set_option maxRecDepth 100000 in
set_option maxHeartbeats 2000000 in
theorem ok_rat15 : PuOk Try.prog 41 s_rat15 := by
  refine pu_ok (tab := []) hmix TabOk.nil Try.func41 rfl Try.results41 Try.ntmps41 (by kernel_rfl) (by kernel_rfl) ?_
  intro args v h
  unfold s_rat15 at h
  split at h
  · rename_i n off sz
    split at h
    · rename_i hc
      simp only [Option.some.injEq] at h; subst h
      refine ⟨by simp only [List.length_cons, List.length_nil]; decide, rfl, rfl, ?_⟩
      obtain ⟨N, rfl⟩ : ∃ N : Nat, n = (N : Int) := ⟨n.toNat, by omega⟩
      have ck := ck_cases hc.1 hc.2 off sz
      obtain ⟨m, hm⟩ : ∃ m, off.toNat = m := ⟨_, rfl⟩
      rw [hm] at ck
      generalize ckAt (N : Int) off sz = a at *
      have L1 : m = 49144 → (off = 49144#64) = True := fun h => by rw [off_lit (by decide), hm]; exact eq_true h
      have L1' : m ≠ 49144 → (off = 49144#64) = False := fun h => by rw [off_lit (by decide), hm]; exact eq_false h
      have L2 : m = 49148 → (off = 49148#64) = True := fun h => by rw [off_lit (by decide), hm]; exact eq_true h
      have L2' : m ≠ 49148 → (off = 49148#64) = False := fun h => by rw [off_lit (by decide), hm]; exact eq_false h
      cases ck with
      | c1 h hn hs hm2 ha =>
        subst hs ha
        rw [show bitsC 4 ⟨1, h, 0#64⟩ = 0 by simp [bitsC]]
        (try simp (config := { maxSteps := 10000000 }) only [go_sem, seval]; repeat (simp (disch := omega) only [w64_d, ipos, ineg, dpos, dneg]; try simp (config := { maxSteps := 10000000 }) only [go_sem, seval]))
        refine arun_for h (fun i => ([(0, .c (.i N)), (1, .c (.u off)), (2, .c (.i 4)), (9, .c (.i i))], [])) (Wk.fq (by simp [Am.get])) fun i hi => ?_
        by_cases hlt : i < h
        · have lt1 : ((i : Nat) : Int) < (N : Int) := by omega
          have lt2 : ((i : Nat) : Int) < 8 := by omega
          have E1 : w64 (4 * (i : Int)) = 4 * (i : Int) := w64_d (by omega) (by omega)
          have E2 : w64 (8 * (i : Int)) = 8 * (i : Int) := w64_d (by omega) (by omega)
          have E3 : w64 (16384 + 8 * (i : Int)) = 16384 + 8 * (i : Int) := w64_d (by omega) (by omega)
          have E4 : w64 ((i : Int) + 1) = ((i + 1 : Nat) : Int) := by rw [w64_d (by omega) (by omega)]; omega
          have Q1 : (off = BitVec.ofInt 64 (4 * (i : Int))) = False := by rw [offi (by omega) (by omega)]; exact eq_false (by omega)
          have Q2 : (off = BitVec.ofInt 64 (16384 + 8 * (i : Int))) = False := by rw [offi (by omega) (by omega)]; exact eq_false (by omega)
          have Q3 : (off = BitVec.ofInt 64 (16384 + 8 * (i : Int)) + 4#64) = False := by rw [offi4 (by omega) (by omega)]; exact eq_false (by omega)
          (try simp (config := { maxSteps := 10000000 }) only [go_sem, seval, lt1, lt2, E1, E2, E3, E4, Q1, Q2, Q3]; repeat (simp (disch := omega) only [w64_d, ipos, ineg, dpos, dneg]; try simp (config := { maxSteps := 10000000 }) only [go_sem, seval, lt1, lt2, E1, E2, E3, E4, Q1, Q2, Q3]))
          exact ⟨i + 1, by omega, by omega, Wk.fq (by simp [Am.get])⟩
        · obtain rfl : i = h := by omega
          have lt1 : ((i : Nat) : Int) < (N : Int) := by omega
          have lt2 : ((i : Nat) : Int) < 8 := by omega
          have E1 : w64 (4 * (i : Int)) = 4 * (i : Int) := w64_d (by omega) (by omega)
          have E2 : w64 (8 * (i : Int)) = 8 * (i : Int) := w64_d (by omega) (by omega)
          have E3 : w64 (16384 + 8 * (i : Int)) = 16384 + 8 * (i : Int) := w64_d (by omega) (by omega)
          have E4 : w64 ((i : Int) + 1) = ((i + 1 : Nat) : Int) := by rw [w64_d (by omega) (by omega)]; omega
          have Q1 : (off = BitVec.ofInt 64 (4 * (i : Int))) = True := by rw [offi (by omega) (by omega)]; exact eq_true (by omega)
          (try simp (config := { maxSteps := 10000000 }) only [go_sem, seval, lt1, lt2, E1, E2, E3, E4, Q1]; repeat (simp (disch := omega) only [w64_d, ipos, ineg, dpos, dneg]; try simp (config := { maxSteps := 10000000 }) only [go_sem, seval, lt1, lt2, E1, E2, E3, E4, Q1]))
      | c2 h hn hs hm2 ha =>
        subst hs ha
        rw [show bitsC 8 ⟨2, h, 0#64⟩ = 0 by simp [bitsC]]
        (try simp (config := { maxSteps := 10000000 }) only [go_sem, seval]; repeat (simp (disch := omega) only [w64_d, ipos, ineg, dpos, dneg]; try simp (config := { maxSteps := 10000000 }) only [go_sem, seval]))
        refine arun_for h (fun i => ([(0, .c (.i N)), (1, .c (.u off)), (2, .c (.i 8)), (9, .c (.i i))], [])) (Wk.fq (by simp [Am.get])) fun i hi => ?_
        by_cases hlt : i < h
        · have lt1 : ((i : Nat) : Int) < (N : Int) := by omega
          have lt2 : ((i : Nat) : Int) < 8 := by omega
          have E1 : w64 (4 * (i : Int)) = 4 * (i : Int) := w64_d (by omega) (by omega)
          have E2 : w64 (8 * (i : Int)) = 8 * (i : Int) := w64_d (by omega) (by omega)
          have E3 : w64 (16384 + 8 * (i : Int)) = 16384 + 8 * (i : Int) := w64_d (by omega) (by omega)
          have E4 : w64 ((i : Int) + 1) = ((i + 1 : Nat) : Int) := by rw [w64_d (by omega) (by omega)]; omega
          have Q2 : (off = BitVec.ofInt 64 (16384 + 8 * (i : Int))) = False := by rw [offi (by omega) (by omega)]; exact eq_false (by omega)
          (try simp (config := { maxSteps := 10000000 }) only [go_sem, seval, lt1, lt2, E1, E2, E3, E4, Q2]; repeat (simp (disch := omega) only [w64_d, ipos, ineg, dpos, dneg]; try simp (config := { maxSteps := 10000000 }) only [go_sem, seval, lt1, lt2, E1, E2, E3, E4, Q2]))
          exact ⟨i + 1, by omega, by omega, Wk.fq (by simp [Am.get])⟩
        · obtain rfl : i = h := by omega
          have lt1 : ((i : Nat) : Int) < (N : Int) := by omega
          have lt2 : ((i : Nat) : Int) < 8 := by omega
          have E1 : w64 (4 * (i : Int)) = 4 * (i : Int) := w64_d (by omega) (by omega)
          have E2 : w64 (8 * (i : Int)) = 8 * (i : Int) := w64_d (by omega) (by omega)
          have E3 : w64 (16384 + 8 * (i : Int)) = 16384 + 8 * (i : Int) := w64_d (by omega) (by omega)
          have E4 : w64 ((i : Int) + 1) = ((i + 1 : Nat) : Int) := by rw [w64_d (by omega) (by omega)]; omega
          have Q2 : (off = BitVec.ofInt 64 (16384 + 8 * (i : Int))) = True := by rw [offi (by omega) (by omega)]; exact eq_true (by omega)
          (try simp (config := { maxSteps := 10000000 }) only [go_sem, seval, lt1, lt2, E1, E2, E3, E4, Q2]; repeat (simp (disch := omega) only [w64_d, ipos, ineg, dpos, dneg]; try simp (config := { maxSteps := 10000000 }) only [go_sem, seval, lt1, lt2, E1, E2, E3, E4, Q2]))
      | c3 h hn hs hm2 ha =>
        subst hs ha
        rw [show bitsC 4 ⟨2, h, 0#64⟩ = 1 by simp [bitsC]]
        (try simp (config := { maxSteps := 10000000 }) only [go_sem, seval]; repeat (simp (disch := omega) only [w64_d, ipos, ineg, dpos, dneg]; try simp (config := { maxSteps := 10000000 }) only [go_sem, seval]))
        refine arun_for h (fun i => ([(0, .c (.i N)), (1, .c (.u off)), (2, .c (.i 4)), (9, .c (.i i))], [])) (Wk.fq (by simp [Am.get])) fun i hi => ?_
        by_cases hlt : i < h
        · have lt1 : ((i : Nat) : Int) < (N : Int) := by omega
          have lt2 : ((i : Nat) : Int) < 8 := by omega
          have E1 : w64 (4 * (i : Int)) = 4 * (i : Int) := w64_d (by omega) (by omega)
          have E2 : w64 (8 * (i : Int)) = 8 * (i : Int) := w64_d (by omega) (by omega)
          have E3 : w64 (16384 + 8 * (i : Int)) = 16384 + 8 * (i : Int) := w64_d (by omega) (by omega)
          have E4 : w64 ((i : Int) + 1) = ((i + 1 : Nat) : Int) := by rw [w64_d (by omega) (by omega)]; omega
          have Q1 : (off = BitVec.ofInt 64 (4 * (i : Int))) = False := by rw [offi (by omega) (by omega)]; exact eq_false (by omega)
          have Q2 : (off = BitVec.ofInt 64 (16384 + 8 * (i : Int))) = False := by rw [offi (by omega) (by omega)]; exact eq_false (by omega)
          have Q3 : (off = BitVec.ofInt 64 (16384 + 8 * (i : Int)) + 4#64) = False := by rw [offi4 (by omega) (by omega)]; exact eq_false (by omega)
          (try simp (config := { maxSteps := 10000000 }) only [go_sem, seval, lt1, lt2, E1, E2, E3, E4, Q1, Q2, Q3]; repeat (simp (disch := omega) only [w64_d, ipos, ineg, dpos, dneg]; try simp (config := { maxSteps := 10000000 }) only [go_sem, seval, lt1, lt2, E1, E2, E3, E4, Q1, Q2, Q3]))
          exact ⟨i + 1, by omega, by omega, Wk.fq (by simp [Am.get])⟩
        · obtain rfl : i = h := by omega
          have lt1 : ((i : Nat) : Int) < (N : Int) := by omega
          have lt2 : ((i : Nat) : Int) < 8 := by omega
          have E1 : w64 (4 * (i : Int)) = 4 * (i : Int) := w64_d (by omega) (by omega)
          have E2 : w64 (8 * (i : Int)) = 8 * (i : Int) := w64_d (by omega) (by omega)
          have E3 : w64 (16384 + 8 * (i : Int)) = 16384 + 8 * (i : Int) := w64_d (by omega) (by omega)
          have E4 : w64 ((i : Int) + 1) = ((i + 1 : Nat) : Int) := by rw [w64_d (by omega) (by omega)]; omega
          have Q1 : (off = BitVec.ofInt 64 (4 * (i : Int))) = False := by rw [offi (by omega) (by omega)]; exact eq_false (by omega)
          have Q2 : (off = BitVec.ofInt 64 (16384 + 8 * (i : Int))) = True := by rw [offi (by omega) (by omega)]; exact eq_true (by omega)
          (try simp (config := { maxSteps := 10000000 }) only [go_sem, seval, lt1, lt2, E1, E2, E3, E4, Q1, Q2]; repeat (simp (disch := omega) only [w64_d, ipos, ineg, dpos, dneg]; try simp (config := { maxSteps := 10000000 }) only [go_sem, seval, lt1, lt2, E1, E2, E3, E4, Q1, Q2]))
      | c4 h hn hs hm2 ha =>
        subst hs ha
        rw [show bitsC 4 ⟨2, h, 32#64⟩ = 2 by simp [bitsC]]
        (try simp (config := { maxSteps := 10000000 }) only [go_sem, seval]; repeat (simp (disch := omega) only [w64_d, ipos, ineg, dpos, dneg]; try simp (config := { maxSteps := 10000000 }) only [go_sem, seval]))
        refine arun_for h (fun i => ([(0, .c (.i N)), (1, .c (.u off)), (2, .c (.i 4)), (9, .c (.i i))], [])) (Wk.fq (by simp [Am.get])) fun i hi => ?_
        by_cases hlt : i < h
        · have lt1 : ((i : Nat) : Int) < (N : Int) := by omega
          have lt2 : ((i : Nat) : Int) < 8 := by omega
          have E1 : w64 (4 * (i : Int)) = 4 * (i : Int) := w64_d (by omega) (by omega)
          have E2 : w64 (8 * (i : Int)) = 8 * (i : Int) := w64_d (by omega) (by omega)
          have E3 : w64 (16384 + 8 * (i : Int)) = 16384 + 8 * (i : Int) := w64_d (by omega) (by omega)
          have E4 : w64 ((i : Int) + 1) = ((i + 1 : Nat) : Int) := by rw [w64_d (by omega) (by omega)]; omega
          have Q1 : (off = BitVec.ofInt 64 (4 * (i : Int))) = False := by rw [offi (by omega) (by omega)]; exact eq_false (by omega)
          have Q2 : (off = BitVec.ofInt 64 (16384 + 8 * (i : Int))) = False := by rw [offi (by omega) (by omega)]; exact eq_false (by omega)
          have Q3 : (off = BitVec.ofInt 64 (16384 + 8 * (i : Int)) + 4#64) = False := by rw [offi4 (by omega) (by omega)]; exact eq_false (by omega)
          (try simp (config := { maxSteps := 10000000 }) only [go_sem, seval, lt1, lt2, E1, E2, E3, E4, Q1, Q2, Q3]; repeat (simp (disch := omega) only [w64_d, ipos, ineg, dpos, dneg]; try simp (config := { maxSteps := 10000000 }) only [go_sem, seval, lt1, lt2, E1, E2, E3, E4, Q1, Q2, Q3]))
          exact ⟨i + 1, by omega, by omega, Wk.fq (by simp [Am.get])⟩
        · obtain rfl : i = h := by omega
          have lt1 : ((i : Nat) : Int) < (N : Int) := by omega
          have lt2 : ((i : Nat) : Int) < 8 := by omega
          have E1 : w64 (4 * (i : Int)) = 4 * (i : Int) := w64_d (by omega) (by omega)
          have E2 : w64 (8 * (i : Int)) = 8 * (i : Int) := w64_d (by omega) (by omega)
          have E3 : w64 (16384 + 8 * (i : Int)) = 16384 + 8 * (i : Int) := w64_d (by omega) (by omega)
          have E4 : w64 ((i : Int) + 1) = ((i + 1 : Nat) : Int) := by rw [w64_d (by omega) (by omega)]; omega
          have Q1 : (off = BitVec.ofInt 64 (4 * (i : Int))) = False := by rw [offi (by omega) (by omega)]; exact eq_false (by omega)
          have Q2 : (off = BitVec.ofInt 64 (16384 + 8 * (i : Int))) = False := by rw [offi (by omega) (by omega)]; exact eq_false (by omega)
          have Q3 : (off = BitVec.ofInt 64 (16384 + 8 * (i : Int)) + 4#64) = True := by rw [offi4 (by omega) (by omega)]; exact eq_true (by omega)
          (try simp (config := { maxSteps := 10000000 }) only [go_sem, seval, lt1, lt2, E1, E2, E3, E4, Q1, Q2, Q3]; repeat (simp (disch := omega) only [w64_d, ipos, ineg, dpos, dneg]; try simp (config := { maxSteps := 10000000 }) only [go_sem, seval, lt1, lt2, E1, E2, E3, E4, Q1, Q2, Q3]))
      | c5 hs hm2 ha =>
        subst hs ha
        rw [show bitsC 8 ⟨3, 0, 0#64⟩ = 0 by simp [bitsC]]
        (try simp (config := { maxSteps := 10000000 }) only [go_sem, seval]; repeat (simp (disch := omega) only [w64_d, ipos, ineg, dpos, dneg]; try simp (config := { maxSteps := 10000000 }) only [go_sem, seval]))
        refine arun_for N (fun i => ([(0, .c (.i N)), (1, .c (.u off)), (2, .c (.i 8)), (9, .c (.i i))], [])) (Wk.fq (by simp [Am.get])) fun i hi => ?_
        by_cases hlt : i < N
        · have lt1 : ((i : Nat) : Int) < (N : Int) := by omega
          have lt2 : ((i : Nat) : Int) < 8 := by omega
          have E1 : w64 (4 * (i : Int)) = 4 * (i : Int) := w64_d (by omega) (by omega)
          have E2 : w64 (8 * (i : Int)) = 8 * (i : Int) := w64_d (by omega) (by omega)
          have E3 : w64 (16384 + 8 * (i : Int)) = 16384 + 8 * (i : Int) := w64_d (by omega) (by omega)
          have E4 : w64 ((i : Int) + 1) = ((i + 1 : Nat) : Int) := by rw [w64_d (by omega) (by omega)]; omega
          have Q2 : (off = BitVec.ofInt 64 (16384 + 8 * (i : Int))) = False := by rw [offi (by omega) (by omega)]; exact eq_false (by omega)
          (try simp (config := { maxSteps := 10000000 }) only [go_sem, seval, lt1, lt2, E1, E2, E3, E4, Q2]; repeat (simp (disch := omega) only [w64_d, ipos, ineg, dpos, dneg]; try simp (config := { maxSteps := 10000000 }) only [go_sem, seval, lt1, lt2, E1, E2, E3, E4, Q2]))
          exact ⟨i + 1, by omega, by omega, Wk.fq (by simp [Am.get])⟩
        · obtain rfl : i = N := by omega
          have n0 : (0 : Int) < (i : Int) := by omega
          have l1 := L1 hm2
          (try simp (config := { maxSteps := 10000000 }) only [go_sem, seval, n0, l1]; repeat (simp (disch := omega) only [w64_d, ipos, ineg, dpos, dneg]; try simp (config := { maxSteps := 10000000 }) only [go_sem, seval, n0, l1]))
      | c6 hs hm2 ha =>
        subst hs ha
        rw [show bitsC 4 ⟨3, 0, 0#64⟩ = 1 by simp [bitsC]]
        (try simp (config := { maxSteps := 10000000 }) only [go_sem, seval]; repeat (simp (disch := omega) only [w64_d, ipos, ineg, dpos, dneg]; try simp (config := { maxSteps := 10000000 }) only [go_sem, seval]))
        refine arun_for N (fun i => ([(0, .c (.i N)), (1, .c (.u off)), (2, .c (.i 4)), (9, .c (.i i))], [])) (Wk.fq (by simp [Am.get])) fun i hi => ?_
        by_cases hlt : i < N
        · have lt1 : ((i : Nat) : Int) < (N : Int) := by omega
          have lt2 : ((i : Nat) : Int) < 8 := by omega
          have E1 : w64 (4 * (i : Int)) = 4 * (i : Int) := w64_d (by omega) (by omega)
          have E2 : w64 (8 * (i : Int)) = 8 * (i : Int) := w64_d (by omega) (by omega)
          have E3 : w64 (16384 + 8 * (i : Int)) = 16384 + 8 * (i : Int) := w64_d (by omega) (by omega)
          have E4 : w64 ((i : Int) + 1) = ((i + 1 : Nat) : Int) := by rw [w64_d (by omega) (by omega)]; omega
          have Q1 : (off = BitVec.ofInt 64 (4 * (i : Int))) = False := by rw [offi (by omega) (by omega)]; exact eq_false (by omega)
          have Q2 : (off = BitVec.ofInt 64 (16384 + 8 * (i : Int))) = False := by rw [offi (by omega) (by omega)]; exact eq_false (by omega)
          have Q3 : (off = BitVec.ofInt 64 (16384 + 8 * (i : Int)) + 4#64) = False := by rw [offi4 (by omega) (by omega)]; exact eq_false (by omega)
          (try simp (config := { maxSteps := 10000000 }) only [go_sem, seval, lt1, lt2, E1, E2, E3, E4, Q1, Q2, Q3]; repeat (simp (disch := omega) only [w64_d, ipos, ineg, dpos, dneg]; try simp (config := { maxSteps := 10000000 }) only [go_sem, seval, lt1, lt2, E1, E2, E3, E4, Q1, Q2, Q3]))
          exact ⟨i + 1, by omega, by omega, Wk.fq (by simp [Am.get])⟩
        · obtain rfl : i = N := by omega
          have n0 : (0 : Int) < (i : Int) := by omega
          have l1 := L1 hm2
          (try simp (config := { maxSteps := 10000000 }) only [go_sem, seval, n0, l1]; repeat (simp (disch := omega) only [w64_d, ipos, ineg, dpos, dneg]; try simp (config := { maxSteps := 10000000 }) only [go_sem, seval, n0, l1]))
      | c7 hs hm2 ha =>
        subst hs ha
        rw [show bitsC 4 ⟨3, 0, 32#64⟩ = 2 by simp [bitsC]]
        (try simp (config := { maxSteps := 10000000 }) only [go_sem, seval]; repeat (simp (disch := omega) only [w64_d, ipos, ineg, dpos, dneg]; try simp (config := { maxSteps := 10000000 }) only [go_sem, seval]))
        refine arun_for N (fun i => ([(0, .c (.i N)), (1, .c (.u off)), (2, .c (.i 4)), (9, .c (.i i))], [])) (Wk.fq (by simp [Am.get])) fun i hi => ?_
        by_cases hlt : i < N
        · have lt1 : ((i : Nat) : Int) < (N : Int) := by omega
          have lt2 : ((i : Nat) : Int) < 8 := by omega
          have E1 : w64 (4 * (i : Int)) = 4 * (i : Int) := w64_d (by omega) (by omega)
          have E2 : w64 (8 * (i : Int)) = 8 * (i : Int) := w64_d (by omega) (by omega)
          have E3 : w64 (16384 + 8 * (i : Int)) = 16384 + 8 * (i : Int) := w64_d (by omega) (by omega)
          have E4 : w64 ((i : Int) + 1) = ((i + 1 : Nat) : Int) := by rw [w64_d (by omega) (by omega)]; omega
          have Q1 : (off = BitVec.ofInt 64 (4 * (i : Int))) = False := by rw [offi (by omega) (by omega)]; exact eq_false (by omega)
          have Q2 : (off = BitVec.ofInt 64 (16384 + 8 * (i : Int))) = False := by rw [offi (by omega) (by omega)]; exact eq_false (by omega)
          have Q3 : (off = BitVec.ofInt 64 (16384 + 8 * (i : Int)) + 4#64) = False := by rw [offi4 (by omega) (by omega)]; exact eq_false (by omega)
          (try simp (config := { maxSteps := 10000000 }) only [go_sem, seval, lt1, lt2, E1, E2, E3, E4, Q1, Q2, Q3]; repeat (simp (disch := omega) only [w64_d, ipos, ineg, dpos, dneg]; try simp (config := { maxSteps := 10000000 }) only [go_sem, seval, lt1, lt2, E1, E2, E3, E4, Q1, Q2, Q3]))
          exact ⟨i + 1, by omega, by omega, Wk.fq (by simp [Am.get])⟩
        · obtain rfl : i = N := by omega
          have n0 : (0 : Int) < (i : Int) := by omega
          have l1 := L1' (by omega)
          have l2 := L2 hm2
          (try simp (config := { maxSteps := 10000000 }) only [go_sem, seval, n0, l1, l2]; repeat (simp (disch := omega) only [w64_d, ipos, ineg, dpos, dneg]; try simp (config := { maxSteps := 10000000 }) only [go_sem, seval, n0, l1, l2]))
      | c0 ha h4 h8 =>
        subst ha
        have eb : bitsC sz ⟨0, 0, 0#64⟩ = 0 := by simp [bitsC]
        rw [eb]
        by_cases s4 : sz = 4
        · subst s4
          obtain ⟨g1, g2, g3⟩ := h4 rfl
          (try simp (config := { maxSteps := 10000000 }) only [go_sem, seval]; repeat (simp (disch := omega) only [w64_d, ipos, ineg, dpos, dneg]; try simp (config := { maxSteps := 10000000 }) only [go_sem, seval]))
          refine arun_for N (fun i => ([(0, .c (.i N)), (1, .c (.u off)), (2, .c (.i 4)), (9, .c (.i i))], [])) (Wk.fq (by simp [Am.get])) fun i hi => ?_
          by_cases hlt : i < N
          · obtain ⟨k1, k2, k3⟩ := g3 i (by omega)
            have lt1 : ((i : Nat) : Int) < (N : Int) := by omega
            have lt2 : ((i : Nat) : Int) < 8 := by omega
            have E1 : w64 (4 * (i : Int)) = 4 * (i : Int) := w64_d (by omega) (by omega)
            have E2 : w64 (8 * (i : Int)) = 8 * (i : Int) := w64_d (by omega) (by omega)
            have E3 : w64 (16384 + 8 * (i : Int)) = 16384 + 8 * (i : Int) := w64_d (by omega) (by omega)
            have E4 : w64 ((i : Int) + 1) = ((i + 1 : Nat) : Int) := by rw [w64_d (by omega) (by omega)]; omega
            have Q1 : (off = BitVec.ofInt 64 (4 * (i : Int))) = False := by rw [offi (by omega) (by omega)]; exact eq_false (by omega)
            have Q2 : (off = BitVec.ofInt 64 (16384 + 8 * (i : Int))) = False := by rw [offi (by omega) (by omega)]; exact eq_false (by omega)
            have Q3 : (off = BitVec.ofInt 64 (16384 + 8 * (i : Int)) + 4#64) = False := by rw [offi4 (by omega) (by omega)]; exact eq_false (by omega)
            (try simp (config := { maxSteps := 10000000 }) only [go_sem, seval, lt1, lt2, E1, E2, E3, E4, Q1, Q2, Q3]; repeat (simp (disch := omega) only [w64_d, ipos, ineg, dpos, dneg]; try simp (config := { maxSteps := 10000000 }) only [go_sem, seval, lt1, lt2, E1, E2, E3, E4, Q1, Q2, Q3]))
            exact ⟨i + 1, by omega, by omega, Wk.fq (by simp [Am.get])⟩
          · obtain rfl : i = N := by omega
            have n0 : (0 : Int) < (i : Int) := by omega
            have l1 := L1' g1
            have l2 := L2' g2
            (try simp (config := { maxSteps := 10000000 }) only [go_sem, seval, n0, l1, l2]; repeat (simp (disch := omega) only [w64_d, ipos, ineg, dpos, dneg]; try simp (config := { maxSteps := 10000000 }) only [go_sem, seval, n0, l1, l2]))
        by_cases s8 : sz = 8
        · subst s8
          obtain ⟨g1, g3⟩ := h8 rfl
          (try simp (config := { maxSteps := 10000000 }) only [go_sem, seval]; repeat (simp (disch := omega) only [w64_d, ipos, ineg, dpos, dneg]; try simp (config := { maxSteps := 10000000 }) only [go_sem, seval]))
          refine arun_for N (fun i => ([(0, .c (.i N)), (1, .c (.u off)), (2, .c (.i 8)), (9, .c (.i i))], [])) (Wk.fq (by simp [Am.get])) fun i hi => ?_
          by_cases hlt : i < N
          · have k2 := g3 i (by omega)
            have lt1 : ((i : Nat) : Int) < (N : Int) := by omega
            have lt2 : ((i : Nat) : Int) < 8 := by omega
            have E1 : w64 (4 * (i : Int)) = 4 * (i : Int) := w64_d (by omega) (by omega)
            have E2 : w64 (8 * (i : Int)) = 8 * (i : Int) := w64_d (by omega) (by omega)
            have E3 : w64 (16384 + 8 * (i : Int)) = 16384 + 8 * (i : Int) := w64_d (by omega) (by omega)
            have E4 : w64 ((i : Int) + 1) = ((i + 1 : Nat) : Int) := by rw [w64_d (by omega) (by omega)]; omega
            have Q2 : (off = BitVec.ofInt 64 (16384 + 8 * (i : Int))) = False := by rw [offi (by omega) (by omega)]; exact eq_false (by omega)
            (try simp (config := { maxSteps := 10000000 }) only [go_sem, seval, lt1, lt2, E1, E2, E3, E4, Q2]; repeat (simp (disch := omega) only [w64_d, ipos, ineg, dpos, dneg]; try simp (config := { maxSteps := 10000000 }) only [go_sem, seval, lt1, lt2, E1, E2, E3, E4, Q2]))
            exact ⟨i + 1, by omega, by omega, Wk.fq (by simp [Am.get])⟩
          · obtain rfl : i = N := by omega
            have n0 : (0 : Int) < (i : Int) := by omega
            have l1 := L1' g1
            (try simp (config := { maxSteps := 10000000 }) only [go_sem, seval, n0, l1]; repeat (simp (disch := omega) only [w64_d, ipos, ineg, dpos, dneg]; try simp (config := { maxSteps := 10000000 }) only [go_sem, seval, n0, l1]))
        have S4 : (sz = 4) = False := eq_false s4
        have S8 : (sz = 8) = False := eq_false s8
        (try simp (config := { maxSteps := 10000000 }) only [go_sem, seval]; repeat (simp (disch := omega) only [w64_d, ipos, ineg, dpos, dneg]; try simp (config := { maxSteps := 10000000 }) only [go_sem, seval]))
        refine arun_for N (fun i => ([(0, .c (.i N)), (1, .c (.u off)), (2, .c (.i sz)), (9, .c (.i i))], [])) (Wk.fq (by simp [Am.get])) fun i hi => ?_
        by_cases hlt : i < N
        · have lt1 : ((i : Nat) : Int) < (N : Int) := by omega
          have lt2 : ((i : Nat) : Int) < 8 := by omega
          have E1 : w64 (4 * (i : Int)) = 4 * (i : Int) := w64_d (by omega) (by omega)
          have E2 : w64 (8 * (i : Int)) = 8 * (i : Int) := w64_d (by omega) (by omega)
          have E3 : w64 (16384 + 8 * (i : Int)) = 16384 + 8 * (i : Int) := w64_d (by omega) (by omega)
          have E4 : w64 ((i : Int) + 1) = ((i + 1 : Nat) : Int) := by rw [w64_d (by omega) (by omega)]; omega
          (try simp (config := { maxSteps := 10000000 }) only [go_sem, seval, lt1, lt2, E1, E2, E3, E4, S4, S8]; repeat (simp (disch := omega) only [w64_d, ipos, ineg, dpos, dneg]; try simp (config := { maxSteps := 10000000 }) only [go_sem, seval, lt1, lt2, E1, E2, E3, E4, S4, S8]))
          exact ⟨i + 1, by omega, by omega, Wk.fq (by simp [Am.get])⟩
        · obtain rfl : i = N := by omega
          have n0 : (0 : Int) < (i : Int) := by omega
          (try simp (config := { maxSteps := 10000000 }) only [go_sem, seval, n0, S4, S8]; repeat (simp (disch := omega) only [w64_d, ipos, ineg, dpos, dneg]; try simp (config := { maxSteps := 10000000 }) only [go_sem, seval, n0, S4, S8]))
    · simp at h
  · simp at h
end

/-! ## XBf2 -/
section
/-- what may stand there -/
inductive PlC (n : Int) (m : Nat) (sz : Int) (a : Pa) : Prop where
  | p1 (i : Nat) (i1 : 1 ≤ i) (i2 : i < 32) (hs : sz = 4) (hm : m = 4 * i) (ha : a = ⟨1, i⟩)
  | p2 (hs : sz = 4) (hm : m = 4096) (ha : a = ⟨2, 0⟩)
  | p3 (h : Nat) (hn : (h : Int) < 2 * n) (hs : sz = 4) (hm : m = 8192 + 128 * h) (ha : a = ⟨3, h⟩)
  | p4 (h : Nat) (hn : (h : Int) < 2 * n) (hs : sz = 4) (hm : m = 2097152 + 4096 * h) (ha : a = ⟨4, h⟩)
  | p5 (h : Nat) (hn : (h : Int) < 2 * n) (hs : sz = 4) (hm : m = 2097156 + 4096 * h) (ha : a = ⟨5, h⟩)
  | p0 (ha : a = ⟨0, 0⟩) (h4 : sz = 4 → m ≠ 4096 ∧ (∀ i : Nat, 1 ≤ i → i < 32 → m ≠ 4 * i) ∧ ∀ h : Nat, (h : Int) < 2 * n → m ≠ 8192 + 128 * h ∧ m ≠ 2097152 + 4096 * h ∧ m ≠ 2097156 + 4096 * h)
theorem umod_eq {off : BitVec 64} {k x : Nat} (hk : k < 18446744073709551616) (hx : x < 18446744073709551616) : (off % BitVec.ofNat 64 k = BitVec.ofNat 64 x) = (off.toNat % k = x) := by
  have e : (BitVec.ofNat 64 k).toNat = k := by rw [BitVec.toNat_ofNat]; omega
  rw [off_lit hx, BitVec.toNat_umod, e]
theorem ule_eq {off : BitVec 64} {k : Nat} (hk : k < 18446744073709551616) : (BitVec.ofNat 64 k ≤ off) = (k ≤ off.toNat) := by
  have e : (BitVec.ofNat 64 k).toNat = k := by rw [BitVec.toNat_ofNat]; omega
  rw [BitVec.le_def, e]
theorem ult_pg {off : BitVec 64} {n : Int} (n0 : 1 ≤ n) (n1 : n ≤ 8) {a b : Nat} (ha : a ≤ 2097152) (hb : b ≤ 4096) : (off < BitVec.ofNat 64 a + BitVec.ofNat 64 b * BitVec.ofInt 64 (2 * n)) = (off.toNat < a + b * (2 * n.toNat)) := by
  have e : (BitVec.ofInt 64 (2 * n)).toNat = 2 * n.toNat := by rw [BitVec.toNat_ofInt]; omega
  have ea : (BitVec.ofNat 64 a).toNat = a := by rw [BitVec.toNat_ofNat]; omega
  have eb : (BitVec.ofNat 64 b).toNat = b := by rw [BitVec.toNat_ofNat]; omega
  rw [BitVec.lt_def, BitVec.toNat_add, BitVec.toNat_mul, e, ea, eb]
  have h1 : b * (2 * n.toNat) ≤ 4096 * 16 := Nat.mul_le_mul hb (by omega)
  rw [show (a + b * (2 * n.toNat) % 2 ^ 64) % 2 ^ 64 = a + b * (2 * n.toNat) by omega]
theorem usub_div {off : BitVec 64} {a b : Nat} (ha : a ≤ 2097152) (hb : b ≤ 4096) (h : a ≤ off.toNat) : ((off - BitVec.ofNat 64 a) / BitVec.ofNat 64 b).toNat = (off.toNat - a) / b := by
  have ea : (BitVec.ofNat 64 a).toNat = a := by rw [BitVec.toNat_ofNat]; omega
  have eb : (BitVec.ofNat 64 b).toNat = b := by rw [BitVec.toNat_ofNat]; omega
  rw [BitVec.toNat_udiv, BitVec.toNat_sub, ea, eb]
  have := off.isLt
  rw [show (2 ^ 64 - a + off.toNat) % 2 ^ 64 = off.toNat - a by omega]
theorem pl_cases {n : Int} (n0 : 1 ≤ n) (n1 : n ≤ 8) (off : BitVec 64) (sz : Int) : PlC n off.toNat sz (plAt n off sz) := by
  have q1 : (off % 4#64 = 0#64) = (off.toNat % 4 = 0) := umod_eq (by decide) (by decide)
  have q2 : (BitVec.ofInt 64 (2 * n) = 0#64) = False := eq_false fun h => by
    have := congrArg BitVec.toNat h
    rw [BitVec.toNat_ofInt] at this
    have e : (0#64).toNat = 0 := rfl
    omega
  have q3 : (4#64 ≤ off) = (4 ≤ off.toNat) := ule_eq (by decide)
  have q4 : (off < 128#64) = (off.toNat < 128) := by rw [BitVec.lt_def]; rfl
  have q5 : (off = 4096#64) = (off.toNat = 4096) := off_lit (by decide)
  have q6 : (8192#64 ≤ off) = (8192 ≤ off.toNat) := ule_eq (by decide)
  have q7 : (off < 8192#64 + 128#64 * BitVec.ofInt 64 (2 * n)) = (off.toNat < 8192 + 128 * (2 * n.toNat)) := ult_pg n0 n1 (by decide) (by decide)
  have q8 : (off % 128#64 = 0#64) = (off.toNat % 128 = 0) := umod_eq (by decide) (by decide)
  have q9 : (2097152#64 ≤ off) = (2097152 ≤ off.toNat) := ule_eq (by decide)
  have qa : (off < 2097152#64 + 4096#64 * BitVec.ofInt 64 (2 * n)) = (off.toNat < 2097152 + 4096 * (2 * n.toNat)) := ult_pg n0 n1 (by decide) (by decide)
  have qb : (off % 4096#64 = 0#64) = (off.toNat % 4096 = 0) := umod_eq (by decide) (by decide)
  have qc : (off % 4096#64 = 4#64) = (off.toNat % 4096 = 4) := umod_eq (by decide) (by decide)
  have d4 : (off / 4#64).toNat = off.toNat / 4 := by rw [BitVec.toNat_udiv]; rfl
  have u1 : 8192 ≤ off.toNat → ((off - 8192#64) / 128#64).toNat = (off.toNat - 8192) / 128 := usub_div (by decide) (by decide)
  have u2 : 2097152 ≤ off.toNat → ((off - 2097152#64) / 4096#64).toNat = (off.toNat - 2097152) / 4096 := usub_div (by decide) (by decide)
  generalize hm : off.toNat = m at *
  unfold plAt
  simp only [q1, q2, q3, q4, q5, q6, q7, q8, q9, qa, qb, qc, or_false]
  by_cases h4 : sz = 4
  · subst h4
    by_cases a1 : m % 4 = 0
    · rw [if_neg (by simp; omega)]
      by_cases a2 : 4 ≤ m ∧ m < 128
      · rw [if_pos a2]
        exact .p1 (m / 4) (by omega) (by omega) rfl (by omega) (by rw [d4])
      rw [if_neg a2]
      by_cases a3 : m = 4096
      · rw [if_pos a3]
        exact .p2 rfl a3 rfl
      rw [if_neg a3]
      by_cases a4 : 8192 ≤ m ∧ m < 8192 + 128 * (2 * n.toNat) ∧ m % 128 = 0
      · rw [if_pos a4]
        exact .p3 ((m - 8192) / 128) (by omega) rfl (by omega) (by rw [u1 a4.1])
      rw [if_neg a4]
      by_cases a5 : 2097152 ≤ m ∧ m < 2097152 + 4096 * (2 * n.toNat) ∧ m % 4096 = 0
      · rw [if_pos a5]
        exact .p4 ((m - 2097152) / 4096) (by omega) rfl (by omega) (by rw [u2 a5.1])
      rw [if_neg a5]
      by_cases a6 : 2097152 ≤ m ∧ m < 2097152 + 4096 * (2 * n.toNat) ∧ m % 4096 = 4
      · rw [if_pos a6]
        exact .p5 ((m - 2097152) / 4096) (by omega) rfl (by omega) (by rw [u2 a6.1])
      rw [if_neg a6]
      exact .p0 rfl fun _ => ⟨a3, fun i i1 i2 => by omega, fun h hn => ⟨by omega, by omega, by omega⟩⟩
    · rw [if_pos (.inr a1)]
      exact .p0 rfl fun _ => ⟨by omega, fun i i1 i2 => by omega, fun h hn => ⟨by omega, by omega, by omega⟩⟩
  · rw [if_pos (.inl h4)]
    exact .p0 rfl fun h => absurd h h4

set_option maxHeartbeats 4000000 in
def s_rat16 (args : List AV) : Option AV :=
  match args with
  | [.c (.i n), .c (.u off), .c (.i sz)] => if 1 ≤ n ∧ n ≤ 8 then some (.t [.c (.i (plAt n off sz).k), .c (.i ((plAt n off sz).i : Int))]) else none
  | _ => none
theorem s_rat16_eq {n off sz} : s_rat16 [.c (.i n), .c (.u off), .c (.i sz)] = if 1 ≤ n ∧ n ≤ 8 then some (.t [.c (.i (plAt n off sz).k), .c (.i ((plAt n off sz).i : Int))]) else none := rfl
set_option maxRecDepth 100000 in
set_option maxHeartbeats 2000000 in
theorem ok_rat16 : PuOk Try.prog 42 s_rat16 := by
  refine pu_ok (tab := []) hmix TabOk.nil Try.func42 rfl Try.results42 Try.ntmps42 (by kernel_rfl) (by kernel_rfl) ?_
  intro args v h
  unfold s_rat16 at h
  split at h
  · rename_i n off sz
    split at h
    · rename_i hc
      simp only [Option.some.injEq] at h; subst h
      refine ⟨by simp only [List.length_cons, List.length_nil]; decide, rfl, rfl, ?_⟩
      obtain ⟨N, rfl⟩ : ∃ N : Nat, n = (N : Int) := ⟨n.toNat, by omega⟩
      have pc := pl_cases hc.1 hc.2 off sz
      obtain ⟨m, hm⟩ : ∃ m, off.toNat = m := ⟨_, rfl⟩
      rw [hm] at pc
      generalize plAt (N : Int) off sz = a at *
      have g1 : ¬ (N : Int) < 1 := by omega
      have g2 : ¬ (8 : Int) < (N : Int) := by omega
      have L1 : m = 4096 → (off = 4096#64) = True := fun h => by rw [off_lit (by decide), hm]; exact eq_true h
      have L1' : m ≠ 4096 → (off = 4096#64) = False := fun h => by rw [off_lit (by decide), hm]; exact eq_false h
      have n16 : ∀ c : Nat, ¬ (c : Int) < 2 * (N : Int) → c < 16 → w64 (2 * (N : Int)) = 2 * (N : Int) := fun _ _ _ => w64_d (by omega) (by omega)
      have e2 : w64 (2 * (N : Int)) = 2 * (N : Int) := w64_d (by omega) (by omega)
      cases pc with
      | p1 j i1 i2 hs hm2 ha =>
        subst hs ha
        obtain ⟨j, rfl⟩ : ∃ k, j = k + 1 := ⟨j - 1, by omega⟩
        (try simp (config := { maxSteps := 10000000 }) only [go_sem, seval, g1, g2]; repeat (simp (disch := omega) only [w64_d, ipos, ineg, dpos, dneg]; try simp (config := { maxSteps := 10000000 }) only [go_sem, seval, g1, g2]))
        refine arun_for j (fun i => ([(0, .c (.i N)), (1, .c (.u off)), (2, .c (.i 4)), (8, .c (.i (i + 1)))], [])) (Wk.fq (by simp [Am.get])) fun i hi => ?_
        by_cases hlt : i < j
        · have lt1 : ((i : Nat) : Int) + 1 < 32 := by omega
          have E1 : w64 (4 * ((i : Int) + 1)) = 4 * ((i : Int) + 1) := w64_d (by omega) (by omega)
          have E4 : w64 ((i : Int) + 1 + 1) = ((i + 1 : Nat) : Int) + 1 := by rw [w64_d (by omega) (by omega)]; omega
          have Q1 : (off = BitVec.ofInt 64 (4 * ((i : Int) + 1))) = False := by rw [offi (by omega) (by omega)]; exact eq_false (by omega)
          (try simp (config := { maxSteps := 10000000 }) only [go_sem, seval, lt1, E1, E4, Q1]; repeat (simp (disch := omega) only [w64_d, ipos, ineg, dpos, dneg]; try simp (config := { maxSteps := 10000000 }) only [go_sem, seval, lt1, E1, E4, Q1]))
          exact ⟨i + 1, by omega, by omega, Wk.fq (by simp [Am.get])⟩
        · obtain rfl : i = j := by omega
          have lt1 : ((i : Nat) : Int) + 1 < 32 := by omega
          have E1 : w64 (4 * ((i : Int) + 1)) = 4 * ((i : Int) + 1) := w64_d (by omega) (by omega)
          have E4 : w64 ((i : Int) + 1 + 1) = ((i + 1 : Nat) : Int) + 1 := by rw [w64_d (by omega) (by omega)]; omega
          have Q1 : (off = BitVec.ofInt 64 (4 * ((i : Int) + 1))) = True := by rw [offi (by omega) (by omega)]; exact eq_true (by omega)
          (try simp (config := { maxSteps := 10000000 }) only [go_sem, seval, lt1, E1, E4, Q1]; repeat (simp (disch := omega) only [w64_d, ipos, ineg, dpos, dneg]; try simp (config := { maxSteps := 10000000 }) only [go_sem, seval, lt1, E1, E4, Q1]))
          first | rfl | skip
      | p2 hs hm2 ha =>
        subst hs ha
        (try simp (config := { maxSteps := 10000000 }) only [go_sem, seval, g1, g2]; repeat (simp (disch := omega) only [w64_d, ipos, ineg, dpos, dneg]; try simp (config := { maxSteps := 10000000 }) only [go_sem, seval, g1, g2]))
        refine arun_for 31 (fun i => ([(0, .c (.i N)), (1, .c (.u off)), (2, .c (.i 4)), (8, .c (.i (i + 1)))], [])) (Wk.fq (by simp [Am.get])) fun i hi => ?_
        by_cases hlt : i < 31
        · have lt1 : ((i : Nat) : Int) + 1 < 32 := by omega
          have E1 : w64 (4 * ((i : Int) + 1)) = 4 * ((i : Int) + 1) := w64_d (by omega) (by omega)
          have E4 : w64 ((i : Int) + 1 + 1) = ((i + 1 : Nat) : Int) + 1 := by rw [w64_d (by omega) (by omega)]; omega
          have Q1 : (off = BitVec.ofInt 64 (4 * ((i : Int) + 1))) = False := by rw [offi (by omega) (by omega)]; exact eq_false (by omega)
          (try simp (config := { maxSteps := 10000000 }) only [go_sem, seval, lt1, E1, E4, Q1]; repeat (simp (disch := omega) only [w64_d, ipos, ineg, dpos, dneg]; try simp (config := { maxSteps := 10000000 }) only [go_sem, seval, lt1, E1, E4, Q1]))
          exact ⟨i + 1, by omega, by omega, Wk.fq (by simp [Am.get])⟩
        · obtain rfl : i = 31 := by omega
          have l1 := L1 hm2
          (try simp (config := { maxSteps := 10000000 }) only [go_sem, seval, l1]; repeat (simp (disch := omega) only [w64_d, ipos, ineg, dpos, dneg]; try simp (config := { maxSteps := 10000000 }) only [go_sem, seval, l1]))
      | p3 h hn hs hm2 ha =>
        subst hs ha
        (try simp (config := { maxSteps := 10000000 }) only [go_sem, seval, g1, g2]; repeat (simp (disch := omega) only [w64_d, ipos, ineg, dpos, dneg]; try simp (config := { maxSteps := 10000000 }) only [go_sem, seval, g1, g2]))
        refine arun_for 31 (fun i => ([(0, .c (.i N)), (1, .c (.u off)), (2, .c (.i 4)), (8, .c (.i (i + 1)))], [])) (Wk.fq (by simp [Am.get])) fun i hi => ?_
        by_cases hlt : i < 31
        · have lt1 : ((i : Nat) : Int) + 1 < 32 := by omega
          have E1 : w64 (4 * ((i : Int) + 1)) = 4 * ((i : Int) + 1) := w64_d (by omega) (by omega)
          have E4 : w64 ((i : Int) + 1 + 1) = ((i + 1 : Nat) : Int) + 1 := by rw [w64_d (by omega) (by omega)]; omega
          have Q1 : (off = BitVec.ofInt 64 (4 * ((i : Int) + 1))) = False := by rw [offi (by omega) (by omega)]; exact eq_false (by omega)
          (try simp (config := { maxSteps := 10000000 }) only [go_sem, seval, lt1, E1, E4, Q1]; repeat (simp (disch := omega) only [w64_d, ipos, ineg, dpos, dneg]; try simp (config := { maxSteps := 10000000 }) only [go_sem, seval, lt1, E1, E4, Q1]))
          exact ⟨i + 1, by omega, by omega, Wk.fq (by simp [Am.get])⟩
        · obtain rfl : i = 31 := by omega
          have l1 := L1' (by omega)
          (try simp (config := { maxSteps := 10000000 }) only [go_sem, seval, l1]; repeat (simp (disch := omega) only [w64_d, ipos, ineg, dpos, dneg]; try simp (config := { maxSteps := 10000000 }) only [go_sem, seval, l1]))
          refine arun_for h (fun k => ([(0, .c (.i N)), (1, .c (.u off)), (2, .c (.i 4)), (9, .c (.i k))], [])) (Wk.fq (by simp [Am.get])) fun k hk => ?_
          by_cases hlt2 : k < h
          · have lt2 : ((k : Nat) : Int) < 2 * (N : Int) := by omega
            have E0 : w64 (2 * (N : Int)) = 2 * (N : Int) := w64_d (by omega) (by omega)
            have E1 : w64 (128 * (k : Int)) = 128 * (k : Int) := w64_d (by omega) (by omega)
            have E2 : w64 (8192 + 128 * (k : Int)) = 8192 + 128 * (k : Int) := w64_d (by omega) (by omega)
            have E3 : w64 (4096 * (k : Int)) = 4096 * (k : Int) := w64_d (by omega) (by omega)
            have E5 : w64 (2097152 + 4096 * (k : Int)) = 2097152 + 4096 * (k : Int) := w64_d (by omega) (by omega)
            have E6 : w64 (2097156 + 4096 * (k : Int)) = 2097156 + 4096 * (k : Int) := w64_d (by omega) (by omega)
            have E4 : w64 ((k : Int) + 1) = ((k + 1 : Nat) : Int) := by rw [w64_d (by omega) (by omega)]; omega
            have Q2 : (off = BitVec.ofInt 64 (8192 + 128 * (k : Int))) = False := by rw [offi (by omega) (by omega)]; exact eq_false (by omega)
            have Q3 : (off = BitVec.ofInt 64 (2097152 + 4096 * (k : Int))) = False := by rw [offi (by omega) (by omega)]; exact eq_false (by omega)
            have Q4 : (off = BitVec.ofInt 64 (2097156 + 4096 * (k : Int))) = False := by rw [offi (by omega) (by omega)]; exact eq_false (by omega)
            (try simp (config := { maxSteps := 10000000 }) only [go_sem, seval, lt2, E0, E1, E2, E3, E4, E5, E6, Q2, Q3, Q4]; repeat (simp (disch := omega) only [w64_d, ipos, ineg, dpos, dneg]; try simp (config := { maxSteps := 10000000 }) only [go_sem, seval, lt2, E0, E1, E2, E3, E4, E5, E6, Q2, Q3, Q4]))
            exact ⟨k + 1, by omega, by omega, Wk.fq (by simp [Am.get])⟩
          · obtain rfl : k = h := by omega
            have lt2 : ((k : Nat) : Int) < 2 * (N : Int) := by omega
            have E0 : w64 (2 * (N : Int)) = 2 * (N : Int) := w64_d (by omega) (by omega)
            have E1 : w64 (128 * (k : Int)) = 128 * (k : Int) := w64_d (by omega) (by omega)
            have E2 : w64 (8192 + 128 * (k : Int)) = 8192 + 128 * (k : Int) := w64_d (by omega) (by omega)
            have E3 : w64 (4096 * (k : Int)) = 4096 * (k : Int) := w64_d (by omega) (by omega)
            have E5 : w64 (2097152 + 4096 * (k : Int)) = 2097152 + 4096 * (k : Int) := w64_d (by omega) (by omega)
            have E6 : w64 (2097156 + 4096 * (k : Int)) = 2097156 + 4096 * (k : Int) := w64_d (by omega) (by omega)
            have E4 : w64 ((k : Int) + 1) = ((k + 1 : Nat) : Int) := by rw [w64_d (by omega) (by omega)]; omega
            have Q2 : (off = BitVec.ofInt 64 (8192 + 128 * (k : Int))) = True := by rw [offi (by omega) (by omega)]; exact eq_true (by omega)
            (try simp (config := { maxSteps := 10000000 }) only [go_sem, seval, lt2, E0, E1, E2, E3, E4, E5, E6, Q2]; repeat (simp (disch := omega) only [w64_d, ipos, ineg, dpos, dneg]; try simp (config := { maxSteps := 10000000 }) only [go_sem, seval, lt2, E0, E1, E2, E3, E4, E5, E6, Q2]))
      | p4 h hn hs hm2 ha =>
        subst hs ha
        (try simp (config := { maxSteps := 10000000 }) only [go_sem, seval, g1, g2]; repeat (simp (disch := omega) only [w64_d, ipos, ineg, dpos, dneg]; try simp (config := { maxSteps := 10000000 }) only [go_sem, seval, g1, g2]))
        refine arun_for 31 (fun i => ([(0, .c (.i N)), (1, .c (.u off)), (2, .c (.i 4)), (8, .c (.i (i + 1)))], [])) (Wk.fq (by simp [Am.get])) fun i hi => ?_
        by_cases hlt : i < 31
        · have lt1 : ((i : Nat) : Int) + 1 < 32 := by omega
          have E1 : w64 (4 * ((i : Int) + 1)) = 4 * ((i : Int) + 1) := w64_d (by omega) (by omega)
          have E4 : w64 ((i : Int) + 1 + 1) = ((i + 1 : Nat) : Int) + 1 := by rw [w64_d (by omega) (by omega)]; omega
          have Q1 : (off = BitVec.ofInt 64 (4 * ((i : Int) + 1))) = False := by rw [offi (by omega) (by omega)]; exact eq_false (by omega)
          (try simp (config := { maxSteps := 10000000 }) only [go_sem, seval, lt1, E1, E4, Q1]; repeat (simp (disch := omega) only [w64_d, ipos, ineg, dpos, dneg]; try simp (config := { maxSteps := 10000000 }) only [go_sem, seval, lt1, E1, E4, Q1]))
          exact ⟨i + 1, by omega, by omega, Wk.fq (by simp [Am.get])⟩
        · obtain rfl : i = 31 := by omega
          have l1 := L1' (by omega)
          (try simp (config := { maxSteps := 10000000 }) only [go_sem, seval, l1]; repeat (simp (disch := omega) only [w64_d, ipos, ineg, dpos, dneg]; try simp (config := { maxSteps := 10000000 }) only [go_sem, seval, l1]))
          refine arun_for h (fun k => ([(0, .c (.i N)), (1, .c (.u off)), (2, .c (.i 4)), (9, .c (.i k))], [])) (Wk.fq (by simp [Am.get])) fun k hk => ?_
          by_cases hlt2 : k < h
          · have lt2 : ((k : Nat) : Int) < 2 * (N : Int) := by omega
            have E0 : w64 (2 * (N : Int)) = 2 * (N : Int) := w64_d (by omega) (by omega)
            have E1 : w64 (128 * (k : Int)) = 128 * (k : Int) := w64_d (by omega) (by omega)
            have E2 : w64 (8192 + 128 * (k : Int)) = 8192 + 128 * (k : Int) := w64_d (by omega) (by omega)
            have E3 : w64 (4096 * (k : Int)) = 4096 * (k : Int) := w64_d (by omega) (by omega)
            have E5 : w64 (2097152 + 4096 * (k : Int)) = 2097152 + 4096 * (k : Int) := w64_d (by omega) (by omega)
            have E6 : w64 (2097156 + 4096 * (k : Int)) = 2097156 + 4096 * (k : Int) := w64_d (by omega) (by omega)
            have E4 : w64 ((k : Int) + 1) = ((k + 1 : Nat) : Int) := by rw [w64_d (by omega) (by omega)]; omega
            have Q2 : (off = BitVec.ofInt 64 (8192 + 128 * (k : Int))) = False := by rw [offi (by omega) (by omega)]; exact eq_false (by omega)
            have Q3 : (off = BitVec.ofInt 64 (2097152 + 4096 * (k : Int))) = False := by rw [offi (by omega) (by omega)]; exact eq_false (by omega)
            have Q4 : (off = BitVec.ofInt 64 (2097156 + 4096 * (k : Int))) = False := by rw [offi (by omega) (by omega)]; exact eq_false (by omega)
            (try simp (config := { maxSteps := 10000000 }) only [go_sem, seval, lt2, E0, E1, E2, E3, E4, E5, E6, Q2, Q3, Q4]; repeat (simp (disch := omega) only [w64_d, ipos, ineg, dpos, dneg]; try simp (config := { maxSteps := 10000000 }) only [go_sem, seval, lt2, E0, E1, E2, E3, E4, E5, E6, Q2, Q3, Q4]))
            exact ⟨k + 1, by omega, by omega, Wk.fq (by simp [Am.get])⟩
          · obtain rfl : k = h := by omega
            have lt2 : ((k : Nat) : Int) < 2 * (N : Int) := by omega
            have E0 : w64 (2 * (N : Int)) = 2 * (N : Int) := w64_d (by omega) (by omega)
            have E1 : w64 (128 * (k : Int)) = 128 * (k : Int) := w64_d (by omega) (by omega)
            have E2 : w64 (8192 + 128 * (k : Int)) = 8192 + 128 * (k : Int) := w64_d (by omega) (by omega)
            have E3 : w64 (4096 * (k : Int)) = 4096 * (k : Int) := w64_d (by omega) (by omega)
            have E5 : w64 (2097152 + 4096 * (k : Int)) = 2097152 + 4096 * (k : Int) := w64_d (by omega) (by omega)
            have E6 : w64 (2097156 + 4096 * (k : Int)) = 2097156 + 4096 * (k : Int) := w64_d (by omega) (by omega)
            have E4 : w64 ((k : Int) + 1) = ((k + 1 : Nat) : Int) := by rw [w64_d (by omega) (by omega)]; omega
            have Q2 : (off = BitVec.ofInt 64 (8192 + 128 * (k : Int))) = False := by rw [offi (by omega) (by omega)]; exact eq_false (by omega)
            have Q3 : (off = BitVec.ofInt 64 (2097152 + 4096 * (k : Int))) = True := by rw [offi (by omega) (by omega)]; exact eq_true (by omega)
            (try simp (config := { maxSteps := 10000000 }) only [go_sem, seval, lt2, E0, E1, E2, E3, E4, E5, E6, Q2, Q3]; repeat (simp (disch := omega) only [w64_d, ipos, ineg, dpos, dneg]; try simp (config := { maxSteps := 10000000 }) only [go_sem, seval, lt2, E0, E1, E2, E3, E4, E5, E6, Q2, Q3]))
      | p5 h hn hs hm2 ha =>
        subst hs ha
        (try simp (config := { maxSteps := 10000000 }) only [go_sem, seval, g1, g2]; repeat (simp (disch := omega) only [w64_d, ipos, ineg, dpos, dneg]; try simp (config := { maxSteps := 10000000 }) only [go_sem, seval, g1, g2]))
        refine arun_for 31 (fun i => ([(0, .c (.i N)), (1, .c (.u off)), (2, .c (.i 4)), (8, .c (.i (i + 1)))], [])) (Wk.fq (by simp [Am.get])) fun i hi => ?_
        by_cases hlt : i < 31
        · have lt1 : ((i : Nat) : Int) + 1 < 32 := by omega
          have E1 : w64 (4 * ((i : Int) + 1)) = 4 * ((i : Int) + 1) := w64_d (by omega) (by omega)
          have E4 : w64 ((i : Int) + 1 + 1) = ((i + 1 : Nat) : Int) + 1 := by rw [w64_d (by omega) (by omega)]; omega
          have Q1 : (off = BitVec.ofInt 64 (4 * ((i : Int) + 1))) = False := by rw [offi (by omega) (by omega)]; exact eq_false (by omega)
          (try simp (config := { maxSteps := 10000000 }) only [go_sem, seval, lt1, E1, E4, Q1]; repeat (simp (disch := omega) only [w64_d, ipos, ineg, dpos, dneg]; try simp (config := { maxSteps := 10000000 }) only [go_sem, seval, lt1, E1, E4, Q1]))
          exact ⟨i + 1, by omega, by omega, Wk.fq (by simp [Am.get])⟩
        · obtain rfl : i = 31 := by omega
          have l1 := L1' (by omega)
          (try simp (config := { maxSteps := 10000000 }) only [go_sem, seval, l1]; repeat (simp (disch := omega) only [w64_d, ipos, ineg, dpos, dneg]; try simp (config := { maxSteps := 10000000 }) only [go_sem, seval, l1]))
          refine arun_for h (fun k => ([(0, .c (.i N)), (1, .c (.u off)), (2, .c (.i 4)), (9, .c (.i k))], [])) (Wk.fq (by simp [Am.get])) fun k hk => ?_
          by_cases hlt2 : k < h
          · have lt2 : ((k : Nat) : Int) < 2 * (N : Int) := by omega
            have E0 : w64 (2 * (N : Int)) = 2 * (N : Int) := w64_d (by omega) (by omega)
            have E1 : w64 (128 * (k : Int)) = 128 * (k : Int) := w64_d (by omega) (by omega)
            have E2 : w64 (8192 + 128 * (k : Int)) = 8192 + 128 * (k : Int) := w64_d (by omega) (by omega)
            have E3 : w64 (4096 * (k : Int)) = 4096 * (k : Int) := w64_d (by omega) (by omega)
            have E5 : w64 (2097152 + 4096 * (k : Int)) = 2097152 + 4096 * (k : Int) := w64_d (by omega) (by omega)
            have E6 : w64 (2097156 + 4096 * (k : Int)) = 2097156 + 4096 * (k : Int) := w64_d (by omega) (by omega)
            have E4 : w64 ((k : Int) + 1) = ((k + 1 : Nat) : Int) := by rw [w64_d (by omega) (by omega)]; omega
            have Q2 : (off = BitVec.ofInt 64 (8192 + 128 * (k : Int))) = False := by rw [offi (by omega) (by omega)]; exact eq_false (by omega)
            have Q3 : (off = BitVec.ofInt 64 (2097152 + 4096 * (k : Int))) = False := by rw [offi (by omega) (by omega)]; exact eq_false (by omega)
            have Q4 : (off = BitVec.ofInt 64 (2097156 + 4096 * (k : Int))) = False := by rw [offi (by omega) (by omega)]; exact eq_false (by omega)
            (try simp (config := { maxSteps := 10000000 }) only [go_sem, seval, lt2, E0, E1, E2, E3, E4, E5, E6, Q2, Q3, Q4]; repeat (simp (disch := omega) only [w64_d, ipos, ineg, dpos, dneg]; try simp (config := { maxSteps := 10000000 }) only [go_sem, seval, lt2, E0, E1, E2, E3, E4, E5, E6, Q2, Q3, Q4]))
            exact ⟨k + 1, by omega, by omega, Wk.fq (by simp [Am.get])⟩
          · obtain rfl : k = h := by omega
            have lt2 : ((k : Nat) : Int) < 2 * (N : Int) := by omega
            have E0 : w64 (2 * (N : Int)) = 2 * (N : Int) := w64_d (by omega) (by omega)
            have E1 : w64 (128 * (k : Int)) = 128 * (k : Int) := w64_d (by omega) (by omega)
            have E2 : w64 (8192 + 128 * (k : Int)) = 8192 + 128 * (k : Int) := w64_d (by omega) (by omega)
            have E3 : w64 (4096 * (k : Int)) = 4096 * (k : Int) := w64_d (by omega) (by omega)
            have E5 : w64 (2097152 + 4096 * (k : Int)) = 2097152 + 4096 * (k : Int) := w64_d (by omega) (by omega)
            have E6 : w64 (2097156 + 4096 * (k : Int)) = 2097156 + 4096 * (k : Int) := w64_d (by omega) (by omega)
            have E4 : w64 ((k : Int) + 1) = ((k + 1 : Nat) : Int) := by rw [w64_d (by omega) (by omega)]; omega
            have Q2 : (off = BitVec.ofInt 64 (8192 + 128 * (k : Int))) = False := by rw [offi (by omega) (by omega)]; exact eq_false (by omega)
            have Q3 : (off = BitVec.ofInt 64 (2097152 + 4096 * (k : Int))) = False := by rw [offi (by omega) (by omega)]; exact eq_false (by omega)
            have Q4 : (off = BitVec.ofInt 64 (2097156 + 4096 * (k : Int))) = True := by rw [offi (by omega) (by omega)]; exact eq_true (by omega)
            (try simp (config := { maxSteps := 10000000 }) only [go_sem, seval, lt2, E0, E1, E2, E3, E4, E5, E6, Q2, Q3, Q4]; repeat (simp (disch := omega) only [w64_d, ipos, ineg, dpos, dneg]; try simp (config := { maxSteps := 10000000 }) only [go_sem, seval, lt2, E0, E1, E2, E3, E4, E5, E6, Q2, Q3, Q4]))
      | p0 ha h4 =>
        subst ha
        by_cases s4 : sz = 4
        · subst s4
          obtain ⟨z1, z2, z3⟩ := h4 rfl
          (try simp (config := { maxSteps := 10000000 }) only [go_sem, seval, g1, g2]; repeat (simp (disch := omega) only [w64_d, ipos, ineg, dpos, dneg]; try simp (config := { maxSteps := 10000000 }) only [go_sem, seval, g1, g2]))
          refine arun_for 31 (fun i => ([(0, .c (.i N)), (1, .c (.u off)), (2, .c (.i 4)), (8, .c (.i (i + 1)))], [])) (Wk.fq (by simp [Am.get])) fun i hi => ?_
          by_cases hlt : i < 31
          · have z := z2 (i + 1) (by omega) (by omega)
            have lt1 : ((i : Nat) : Int) + 1 < 32 := by omega
            have E1 : w64 (4 * ((i : Int) + 1)) = 4 * ((i : Int) + 1) := w64_d (by omega) (by omega)
            have E4 : w64 ((i : Int) + 1 + 1) = ((i + 1 : Nat) : Int) + 1 := by rw [w64_d (by omega) (by omega)]; omega
            have Q1 : (off = BitVec.ofInt 64 (4 * ((i : Int) + 1))) = False := by rw [offi (by omega) (by omega)]; exact eq_false (by omega)
            (try simp (config := { maxSteps := 10000000 }) only [go_sem, seval, lt1, E1, E4, Q1]; repeat (simp (disch := omega) only [w64_d, ipos, ineg, dpos, dneg]; try simp (config := { maxSteps := 10000000 }) only [go_sem, seval, lt1, E1, E4, Q1]))
            exact ⟨i + 1, by omega, by omega, Wk.fq (by simp [Am.get])⟩
          · obtain rfl : i = 31 := by omega
            have l1 := L1' z1
            (try simp (config := { maxSteps := 10000000 }) only [go_sem, seval, l1]; repeat (simp (disch := omega) only [w64_d, ipos, ineg, dpos, dneg]; try simp (config := { maxSteps := 10000000 }) only [go_sem, seval, l1]))
            refine arun_for (2 * N) (fun k => ([(0, .c (.i N)), (1, .c (.u off)), (2, .c (.i 4)), (9, .c (.i k))], [])) (Wk.fq (by simp [Am.get])) fun k hk => ?_
            by_cases hlt2 : k < (2 * N)
            · obtain ⟨y1, y2, y3⟩ := z3 k (by omega)
              have lt2 : ((k : Nat) : Int) < 2 * (N : Int) := by omega
              have E0 : w64 (2 * (N : Int)) = 2 * (N : Int) := w64_d (by omega) (by omega)
              have E1 : w64 (128 * (k : Int)) = 128 * (k : Int) := w64_d (by omega) (by omega)
              have E2 : w64 (8192 + 128 * (k : Int)) = 8192 + 128 * (k : Int) := w64_d (by omega) (by omega)
              have E3 : w64 (4096 * (k : Int)) = 4096 * (k : Int) := w64_d (by omega) (by omega)
              have E5 : w64 (2097152 + 4096 * (k : Int)) = 2097152 + 4096 * (k : Int) := w64_d (by omega) (by omega)
              have E6 : w64 (2097156 + 4096 * (k : Int)) = 2097156 + 4096 * (k : Int) := w64_d (by omega) (by omega)
              have E4 : w64 ((k : Int) + 1) = ((k + 1 : Nat) : Int) := by rw [w64_d (by omega) (by omega)]; omega
              have Q2 : (off = BitVec.ofInt 64 (8192 + 128 * (k : Int))) = False := by rw [offi (by omega) (by omega)]; exact eq_false (by omega)
              have Q3 : (off = BitVec.ofInt 64 (2097152 + 4096 * (k : Int))) = False := by rw [offi (by omega) (by omega)]; exact eq_false (by omega)
              have Q4 : (off = BitVec.ofInt 64 (2097156 + 4096 * (k : Int))) = False := by rw [offi (by omega) (by omega)]; exact eq_false (by omega)
              (try simp (config := { maxSteps := 10000000 }) only [go_sem, seval, lt2, E0, E1, E2, E3, E4, E5, E6, Q2, Q3, Q4]; repeat (simp (disch := omega) only [w64_d, ipos, ineg, dpos, dneg]; try simp (config := { maxSteps := 10000000 }) only [go_sem, seval, lt2, E0, E1, E2, E3, E4, E5, E6, Q2, Q3, Q4]))
              exact ⟨k + 1, by omega, by omega, Wk.fq (by simp [Am.get])⟩
            · obtain rfl : k = (2 * N) := by omega
              have lt2 : ¬ ((2 * N : Nat) : Int) < 2 * (N : Int) := by omega
              (try simp (config := { maxSteps := 10000000 }) only [go_sem, seval, lt2, e2]; repeat (simp (disch := omega) only [w64_d, ipos, ineg, dpos, dneg]; try simp (config := { maxSteps := 10000000 }) only [go_sem, seval, lt2, e2]))
        · have S4 : (sz = 4) = False := eq_false s4
          (try simp (config := { maxSteps := 10000000 }) only [go_sem, seval, S4]; repeat (simp (disch := omega) only [w64_d, ipos, ineg, dpos, dneg]; try simp (config := { maxSteps := 10000000 }) only [go_sem, seval, S4]))
    · simp at h
  · simp at h
/-! ### where an address leads -/
theorem ck0 (off : BitVec 64) (sz : Int) : (ckAt 0 off sz).k = 0 := by
  have e0 : BitVec.ofInt 64 0 = 0#64 := rfl
  unfold ckAt
  rw [e0]
  have z : ∀ x : BitVec 64, ¬ x < 0#64 := fun x h => by rw [BitVec.lt_def] at h; exact absurd h (Nat.not_lt_zero _)
  rw [if_neg (fun h => z _ h.2.2)]
  split
  · rfl
  rw [if_neg (fun h => z _ h.1)]
  rw [if_neg (fun h => by
    obtain ⟨h1, h2⟩ := h
    rw [BitVec.le_def] at h1
    rw [show 16384#64 + 8#64 * 0#64 = 16384#64 from rfl, BitVec.lt_def] at h2
    omega)]
theorem pl0 (off : BitVec 64) (sz : Int) : (plAt 0 off sz).k = 0 := by
  unfold plAt
  rw [if_pos (.inr (.inr rfl))]
theorem ckN_z {n : Int} (h : ¬ (1 ≤ n ∧ n ≤ 8)) : (ckN n).n = 0 := by unfold ckN; rw [if_neg h]; rfl
theorem pkN_z {n : Int} (h : ¬ (1 ≤ n ∧ n ≤ 8)) : (pkN n).n = 0 := by unfold pkN; rw [if_neg h]; rfl
theorem bSp_no {n : Int} (h : ¬ (1 ≤ n ∧ n ≤ 8)) (a : BitVec 64) (s : Int) : (bSp n a s).d = 0 := by
  unfold bSp cFit pFit
  rw [ckN_z h, pkN_z h, ck0, pl0]
  rw [if_neg (by simp), if_neg (by simp), if_neg (fun x => h x.2.1)]
theorem bSp_in {n : Int} (h : 1 ≤ n ∧ n ≤ 8) (a : BitVec 64) (s : Int) : (bSp n a s).d = if ¬ (ckAt n (a - 33554432#64) s).k = 0 then 1 else if ¬ (plAt n (a - 201326592#64) s).k = 0 then 2 else if 268435456#64 ≤ a ∧ a < 268435464#64 ∧ s = 1 then 3 else 0 := by
  unfold bSp cFit pFit
  rw [ckN_n h, pkN_n h]
  have k1 : ¬ (ckAt n (a - 33554432#64) s).k = 0 → 33554432#64 ≤ a := fun hk => by
    have hc := ck_cases h.1 h.2 (a - 33554432#64) s
    generalize ckAt n (a - 33554432#64) s = z at *
    have key : (a - 33554432#64).toNat < 100000 → 33554432#64 ≤ a := fun hl => by
      rw [BitVec.toNat_sub, show (33554432#64).toNat = 33554432 from rfl] at hl
      rw [BitVec.le_def, show (33554432#64).toNat = 33554432 from rfl]
      have := a.isLt
      omega
    cases hc with
    | c0 ha => subst ha; exact absurd rfl hk
    | _ => exact key (by omega)
  have k2 : ¬ (plAt n (a - 201326592#64) s).k = 0 → 201326592#64 ≤ a := fun hk => by
    have hc := pl_cases h.1 h.2 (a - 201326592#64) s
    generalize plAt n (a - 201326592#64) s = z at *
    have key : (a - 201326592#64).toNat < 4000000 → 201326592#64 ≤ a := fun hl => by
      rw [BitVec.toNat_sub, show (201326592#64).toNat = 201326592 from rfl] at hl
      rw [BitVec.le_def, show (201326592#64).toNat = 201326592 from rfl]
      have := a.isLt
      omega
    cases hc with
    | p0 ha => subst ha; exact absurd rfl hk
    | _ => exact key (by omega)
  have k3 : 268435456#64 ≤ a → (a - 268435456#64 < 8#64) = (a < 268435464#64) := fun ha => by
    rw [BitVec.le_def, show (268435456#64).toNat = 268435456 from rfl] at ha
    rw [BitVec.lt_def, BitVec.lt_def, BitVec.toNat_sub, show (268435456#64).toNat = 268435456 from rfl, show (8#64).toNat = 8 from rfl, show (268435464#64).toNat = 268435464 from rfl]
    have := a.isLt
    exact propext (by omega)
  by_cases c1 : (ckAt n (a - 33554432#64) s).k = 0
  · rw [if_neg (by simp [c1])]
    rw [if_neg (show ¬ ¬ (ckAt n (a - 33554432#64) s).k = 0 from fun x => x c1)]
    by_cases c2 : (plAt n (a - 201326592#64) s).k = 0
    · rw [if_neg (by simp [c2]), if_neg (show ¬ ¬ (plAt n (a - 201326592#64) s).k = 0 from fun x => x c2)]
      by_cases c3 : 268435456#64 ≤ a
      · simp only [k3 c3]
        by_cases c4 : a < 268435464#64 ∧ s = 1
        · rw [if_pos ⟨c3, h, c4⟩, if_pos ⟨c3, c4⟩]
        · rw [if_neg (fun x => c4 x.2.2), if_neg (fun x => c4 x.2)]
      · rw [if_neg (fun x => c3 x.1), if_neg (fun x => c3 x.1)]
    · rw [if_pos ⟨k2 c2, by simp [c2]⟩, if_pos c2]
  · rw [if_pos ⟨k1 c1, by simp [c1]⟩, if_pos c1]
def s_rwhere (args : List AV) : Option AV :=
  match args with
  | [.c (.i n), .c (.u a), .c (.i s)] => some (.c (.i (bSp n a s).d))
  | _ => none
theorem s_rwhere_eq {n a s} : s_rwhere [.c (.i n), .c (.u a), .c (.i s)] = some (.c (.i (bSp n a s).d)) := rfl
set_option maxRecDepth 100000 in
set_option maxHeartbeats 2000000 in
theorem ok_rwhere : PuOk Try.prog 18 s_rwhere := by
  refine pu_ok (tab := [(41, .pu s_rat15), (42, .pu s_rat16)]) hmix (TabOk.cons (e := .pu s_rat15) ok_rat15 (TabOk.cons (e := .pu s_rat16) ok_rat16 TabOk.nil)) Try.func18 rfl Try.results18 Try.ntmps18 (by kernel_rfl) (by kernel_rfl) ?_
  intro args v h
  unfold s_rwhere at h
  split at h
  · rename_i n a s
    simp only [Option.some.injEq] at h; subst h
    refine ⟨by simp only [List.length_cons, List.length_nil]; decide, rfl, rfl, ?_⟩
    by_cases h : 1 ≤ n ∧ n ≤ 8
    · rw [bSp_in h]
      have e1 := s_rat15_eq (n := n) (off := a - 33554432#64) (sz := s)
      have e2 := s_rat16_eq (n := n) (off := a - 201326592#64) (sz := s)
      rw [if_pos h] at e1 e2
      have k1 := ckAt_k n (a - 33554432#64) s
      have k2 := plAt_k n (a - 201326592#64) s
      have g1 : ¬ n < 1 := by omega
      have g2 : ¬ 8 < n := by omega
      generalize ckAt n (a - 33554432#64) s = x at *
      generalize plAt n (a - 201326592#64) s = y at *
      obtain ⟨xk, xh, xu⟩ := x
      obtain ⟨yk, yi⟩ := y
      simp only at k1 k2 e1 e2
      by_cases c1 : xk = 0
      · subst c1
        by_cases c2 : yk = 0
        · subst c2
          rcases Classical.propComplete (268435456#64 ≤ a) with c3 | c3
          all_goals rcases Classical.propComplete (a < 268435464#64) with c4 | c4
          all_goals rcases Classical.propComplete (s = 1) with c5 | c5
          all_goals (try simp (config := { maxSteps := 10000000 }) only [go_sem, seval, e1, e2, g1, g2, c3, c4, c5, not_true_eq_false, if_true, if_false, true_and, and_true, false_and, and_false]; repeat (simp (disch := omega) only [w64_d, ipos, ineg, dpos, dneg]; try simp (config := { maxSteps := 10000000 }) only [go_sem, seval, e1, e2, g1, g2, c3, c4, c5, not_true_eq_false, if_true, if_false, true_and, and_true, false_and, and_false]))
        · have p2 : (0 : Int) < yk := by omega
          (try simp (config := { maxSteps := 10000000 }) only [go_sem, seval, e1, e2, g1, g2, p2, c2, not_true_eq_false, not_false_eq_true, if_true, if_false]; repeat (simp (disch := omega) only [w64_d, ipos, ineg, dpos, dneg]; try simp (config := { maxSteps := 10000000 }) only [go_sem, seval, e1, e2, g1, g2, p2, c2, not_true_eq_false, not_false_eq_true, if_true, if_false]))
      · have p1 : (0 : Int) < (xk : Int) := by omega
        (try simp (config := { maxSteps := 10000000 }) only [go_sem, seval, e1, g1, g2, p1, c1, not_false_eq_true, if_true]; repeat (simp (disch := omega) only [w64_d, ipos, ineg, dpos, dneg]; try simp (config := { maxSteps := 10000000 }) only [go_sem, seval, e1, g1, g2, p1, c1, not_false_eq_true, if_true]))
    · have e := bSp_no h a s
      rw [e]
      by_cases g1 : n < 1
      · (try simp (config := { maxSteps := 10000000 }) only [go_sem, seval, g1]; repeat (simp (disch := omega) only [w64_d, ipos, ineg, dpos, dneg]; try simp (config := { maxSteps := 10000000 }) only [go_sem, seval, g1]))
      · have g2 : 8 < n := by omega
        (try simp (config := { maxSteps := 10000000 }) only [go_sem, seval, g1, g2]; repeat (simp (disch := omega) only [w64_d, ipos, ineg, dpos, dneg]; try simp (config := { maxSteps := 10000000 }) only [go_sem, seval, g1, g2]))
  · simp at h
end

end
end Go.Proofs.Ytfddaaplnnlfoaa
