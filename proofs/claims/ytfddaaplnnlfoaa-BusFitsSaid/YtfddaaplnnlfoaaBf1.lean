/- Layer 15: where a register stands, in the document: contract. -/
import Derived.Test.YtfddaaplnnlfoaaBs9
namespace Go.Proofs.Ytfddaaplnnlfoaa
open Go.Am
set_option linter.unusedSimpArgs false
set_option linter.unusedVariables false
noncomputable section

theorem off_eq {off : BitVec 64} {x : Nat} (hx : x < 18446744073709551616) : (off = BitVec.ofInt 64 (x : Int)) = (off.toNat = x) := by
  have e : (BitVec.ofInt 64 (x : Int)).toNat = x := by rw [BitVec.toNat_ofInt]; omega
  exact propext ⟨fun h => by rw [h, e], fun h => BitVec.eq_of_toNat_eq (by rw [e, h])⟩
theorem off_eq4 {off : BitVec 64} {x : Nat} (hx : x < 1000000) : (off = BitVec.ofInt 64 (x : Int) + 4#64) = (off.toNat = x + 4) := by
  have e : (BitVec.ofInt 64 (x : Int) + 4#64).toNat = x + 4 := by
    rw [BitVec.toNat_add, BitVec.toNat_ofInt, show (4#64).toNat = 4 from rfl]; omega
  exact propext ⟨fun h => by rw [h, e], fun h => BitVec.eq_of_toNat_eq (by rw [e, h])⟩
theorem off_lit {off : BitVec 64} {x : Nat} (hx : x < 18446744073709551616) : (off = BitVec.ofNat 64 x) = (off.toNat = x) := by
  have e : (BitVec.ofNat 64 x).toNat = x := by rw [BitVec.toNat_ofNat]; omega
  exact propext ⟨fun h => by rw [h, e], fun h => BitVec.eq_of_toNat_eq (by rw [e, h])⟩
theorem offi {off : BitVec 64} {x : Int} (h0 : 0 ≤ x) (h1 : x < 10000000) : (off = BitVec.ofInt 64 x) = ((off.toNat : Int) = x) := by
  obtain ⟨k, rfl⟩ : ∃ k : Nat, x = (k : Int) := ⟨x.toNat, by omega⟩
  rw [off_eq (by omega)]
  exact propext (by omega)
theorem offi4 {off : BitVec 64} {x : Int} (h0 : 0 ≤ x) (h1 : x < 1000000) : (off = BitVec.ofInt 64 x + 4#64) = ((off.toNat : Int) = x + 4) := by
  obtain ⟨k, rfl⟩ : ∃ k : Nat, x = (k : Int) := ⟨x.toNat, by omega⟩
  rw [off_eq4 (by omega)]
  exact propext (by omega)
/-- what may stand there -/
inductive CkC (n : Int) (m : Nat) (sz : Int) (a : Ca) : Prop where
  | c1 (h : Nat) (hn : (h : Int) < n) (hs : sz = 4) (hm : m = 4 * h) (ha : a = ⟨1, h, 0#64⟩)
  | c2 (h : Nat) (hn : (h : Int) < n) (hs : sz = 8) (hm : m = 16384 + 8 * h) (ha : a = ⟨2, h, 0#64⟩)
  | c3 (h : Nat) (hn : (h : Int) < n) (hs : sz = 4) (hm : m = 16384 + 8 * h) (ha : a = ⟨2, h, 0#64⟩)
  | c4 (h : Nat) (hn : (h : Int) < n) (hs : sz = 4) (hm : m = 16384 + 8 * h + 4) (ha : a = ⟨2, h, 32#64⟩)
  | c5 (hs : sz = 8) (hm : m = 49144) (ha : a = ⟨3, 0, 0#64⟩)
  | c6 (hs : sz = 4) (hm : m = 49144) (ha : a = ⟨3, 0, 0#64⟩)
  | c7 (hs : sz = 4) (hm : m = 49148) (ha : a = ⟨3, 0, 32#64⟩)
  | c0 (ha : a = ⟨0, 0, 0#64⟩) (h4 : sz = 4 → m ≠ 49144 ∧ m ≠ 49148 ∧ ∀ h : Nat, (h : Int) < n → m ≠ 4 * h ∧ m ≠ 16384 + 8 * h ∧ m ≠ 16384 + 8 * h + 4) (h8 : sz = 8 → m ≠ 49144 ∧ ∀ h : Nat, (h : Int) < n → m ≠ 16384 + 8 * h)
theorem bv_e {a b : BitVec 64} (h : a.toNat = b.toNat) : a = b := BitVec.eq_of_toNat_eq h
theorem ck_cases {n : Int} (n0 : 1 ≤ n) (n1 : n ≤ 8) (off : BitVec 64) (sz : Int) : CkC n off.toNat sz (ckAt n off sz) := by
  have en : (BitVec.ofInt 64 n).toNat = n.toNat := of_small (by omega) n1
  have e4 : (4#64).toNat = 4 := rfl
  have e8 : (8#64).toNat = 8 := rfl
  have ez : (0#64).toNat = 0 := rfl
  have m4 : (off % 4#64).toNat = off.toNat % 4 := by rw [BitVec.toNat_umod, e4]
  have d4 : (off / 4#64).toNat = off.toNat / 4 := by rw [BitVec.toNat_udiv, e4]
  have m8 : (off % 8#64).toNat = off.toNat % 8 := by rw [BitVec.toNat_umod, e8]
  have s8 : (off - off % 8#64).toNat = off.toNat - off.toNat % 8 := by rw [BitVec.toNat_sub, m8]; have := off.isLt; omega
  have up : (off % 8#64 * 8#64).toNat = off.toNat % 8 * 8 := by rw [BitVec.toNat_mul, m8, e8]; omega
  have hh : 16384#64 ≤ off - off % 8#64 → ((off - off % 8#64 - 16384#64) / 8#64).toNat = (off.toNat - off.toNat % 8 - 16384) / 8 := fun g => by
    rw [BitVec.le_def, s8, show (16384#64).toNat = 16384 from rfl] at g
    rw [BitVec.toNat_udiv, BitVec.toNat_sub, s8, e8, show (16384#64).toNat = 16384 from rfl]
    have := off.isLt
    omega
  have q1 : (off % 4#64 = 0#64) = (off.toNat % 4 = 0) := propext ⟨fun h => by rw [← m4, h]; rfl, fun h => bv_e (by rw [m4, ez, h])⟩
  have q2 : (off / 4#64 < BitVec.ofInt 64 n) = (off.toNat / 4 < n.toNat) := by rw [BitVec.lt_def, d4, en]
  have q3 : (off % 8#64 = 0#64) = (off.toNat % 8 = 0) := propext ⟨fun h => by rw [← m8, h]; rfl, fun h => bv_e (by rw [m8, ez, h])⟩
  have q4 : (0#64 < BitVec.ofInt 64 n) = True := eq_true (by rw [BitVec.lt_def, en, ez]; omega)
  have q5 : (off - off % 8#64 = 49144#64) = (off.toNat - off.toNat % 8 = 49144) := by rw [off_lit (by decide), s8]
  have q6 : (16384#64 ≤ off - off % 8#64) = (16384 ≤ off.toNat - off.toNat % 8) := by rw [BitVec.le_def, s8]; rfl
  have q7 : (off - off % 8#64 < 16384#64 + 8#64 * BitVec.ofInt 64 n) = (off.toNat - off.toNat % 8 < 16384 + 8 * n.toNat) := by
    rw [BitVec.lt_def, s8, BitVec.toNat_add, BitVec.toNat_mul, en, e8, show (16384#64).toNat = 16384 from rfl]
    rw [show (16384 + 8 * n.toNat % 2 ^ 64) % 2 ^ 64 = 16384 + 8 * n.toNat by omega]
  have qb : sz = 4 ∨ sz = 8 → (off % BitVec.ofInt 64 sz = 0#64) = (off.toNat % sz.toNat = 0) := by
    rintro (rfl | rfl)
    · exact q1
    · exact q3
  generalize hm : off.toNat = m at *
  unfold ckAt
  simp only [q1, q2, q4, q5, q6, q7, true_and]
  by_cases h4 : sz = 4
  · simp only [qb (.inl h4)]
    subst h4
    by_cases a1 : m % 4 = 0
    · by_cases a2 : m / 4 < n.toNat
      · rw [if_pos ⟨rfl, a1, a2⟩]
        exact .c1 (m / 4) (by omega) rfl (by omega) (by rw [d4])
      · rw [if_neg (fun h => a2 h.2.2), if_neg (by simp; omega)]
        by_cases a3 : m - m % 8 = 49144
        · rw [if_pos a3]
          have : m = 49144 ∨ m = 49148 := by omega
          rcases this with h | h
          · exact .c6 rfl h (by congr 1; exact bv_e (by rw [up, h]; rfl))
          · exact .c7 rfl h (by congr 1; exact bv_e (by rw [up, h]; rfl))
        · rw [if_neg a3]
          by_cases a4 : 16384 ≤ m - m % 8 ∧ m - m % 8 < 16384 + 8 * n.toNat
          · rw [if_pos a4]
            have g := hh (by rw [q6]; exact a4.1)
            have : m % 8 = 0 ∨ m % 8 = 4 := by omega
            rcases this with h | h
            · exact .c3 ((m - m % 8 - 16384) / 8) (by omega) rfl (by omega) (by rw [g]; congr 1; exact bv_e (by rw [up, h]; rfl))
            · exact .c4 ((m - m % 8 - 16384) / 8) (by omega) rfl (by omega) (by rw [g]; congr 1; exact bv_e (by rw [up, h]; rfl))
          · rw [if_neg a4]
            exact .c0 rfl (fun _ => ⟨by omega, by omega, fun h hn => ⟨by omega, by omega, by omega⟩⟩) (fun h => by omega)
    · rw [if_neg (fun h => a1 h.2.1), if_pos (.inr a1)]
      exact .c0 rfl (fun _ => ⟨by omega, by omega, fun h hn => ⟨by omega, by omega, by omega⟩⟩) (fun h => by omega)
  · rw [if_neg (fun h => h4 h.1)]
    by_cases h8 : sz = 8
    · simp only [qb (.inr h8)]
      subst h8
      by_cases a1 : m % 8 = 0
      · rw [if_neg (by simp; omega)]
        by_cases a3 : m - m % 8 = 49144
        · rw [if_pos a3]
          exact .c5 rfl (by omega) (by congr 1; exact bv_e (by rw [up, a1]; rfl))
        · rw [if_neg a3]
          by_cases a4 : 16384 ≤ m - m % 8 ∧ m - m % 8 < 16384 + 8 * n.toNat
          · rw [if_pos a4]
            have g := hh (by rw [q6]; exact a4.1)
            exact .c2 ((m - m % 8 - 16384) / 8) (by omega) rfl (by omega) (by rw [g]; congr 1; exact bv_e (by rw [up, a1]; rfl))
          · rw [if_neg a4]
            exact .c0 rfl (fun h => by omega) (fun _ => ⟨by omega, fun h hn => by omega⟩)
      · rw [if_pos (.inr a1)]
        exact .c0 rfl (fun h => by omega) (fun _ => ⟨by omega, fun h hn => by omega⟩)
    · rw [if_pos (.inl ⟨h4, h8⟩)]
      exact .c0 rfl (fun h => absurd h h4) (fun h => absurd h h8)
def bitsC (sz : Int) (a : Ca) : Int := if a.k = 2 ∨ a.k = 3 then (if sz = 8 then 0 else if a.up = 0#64 then 1 else 2) else 0
def s_rat15 (args : List AV) : Option AV :=
  match args with
  | [.c (.i n), .c (.u off), .c (.i sz)] => if 1 ≤ n ∧ n ≤ 8 then some (.t [.c (.i ((ckAt n off sz).k : Int)), .c (.i ((ckAt n off sz).h : Int)), .c (.i (bitsC sz (ckAt n off sz)))]) else none
  | _ => none
theorem s_rat15_eq {n off sz} : s_rat15 [.c (.i n), .c (.u off), .c (.i sz)] = if 1 ≤ n ∧ n ≤ 8 then some (.t [.c (.i ((ckAt n off sz).k : Int)), .c (.i ((ckAt n off sz).h : Int)), .c (.i (bitsC sz (ckAt n off sz)))]) else none := rfl
set_option maxRecDepth 100000 in
set_option maxHeartbeats 2000000 in
theorem ok_rat15 : PuOk Try.prog 41 s_rat15 := by
  refine pu_ok (tab := []) hmix TabOk.nil Try.func41 rfl Try.results41 Try.ntmps41 (by kernel_rfl) (by kernel_rfl) ?_
  intro args v h
  unfold s_rat15 at h
  split at h
  · rename_i n off sz
    split at h
    · rename_i hc
      simp only [Option.some.injEq] at h; subst h
      refine ⟨by simp only [List.length_cons, List.length_nil]; decide, rfl, rfl, ?_⟩
      obtain ⟨N, rfl⟩ : ∃ N : Nat, n = (N : Int) := ⟨n.toNat, by omega⟩
      have ck := ck_cases hc.1 hc.2 off sz
      obtain ⟨m, hm⟩ : ∃ m, off.toNat = m := ⟨_, rfl⟩
      rw [hm] at ck
      generalize ckAt (N : Int) off sz = a at *
      have L1 : m = 49144 → (off = 49144#64) = True := fun h => by rw [off_lit (by decide), hm]; exact eq_true h
      have L1' : m ≠ 49144 → (off = 49144#64) = False := fun h => by rw [off_lit (by decide), hm]; exact eq_false h
      have L2 : m = 49148 → (off = 49148#64) = True := fun h => by rw [off_lit (by decide), hm]; exact eq_true h
      have L2' : m ≠ 49148 → (off = 49148#64) = False := fun h => by rw [off_lit (by decide), hm]; exact eq_false h
      cases ck with
      | c1 h hn hs hm2 ha =>
        subst hs ha
        rw [show bitsC 4 ⟨1, h, 0#64⟩ = 0 by simp [bitsC]]
        (try simp (config := { maxSteps := 10000000 }) only [go_sem, seval]; repeat (simp (disch := omega) only [w64_d, ipos, ineg, dpos, dneg]; try simp (config := { maxSteps := 10000000 }) only [go_sem, seval]))
        refine arun_for h (fun i => ([(0, .c (.i N)), (1, .c (.u off)), (2, .c (.i 4)), (9, .c (.i i))], [])) (Wk.fq (by simp [Am.get])) fun i hi => ?_
        by_cases hlt : i < h
        · have lt1 : ((i : Nat) : Int) < (N : Int) := by omega
          have lt2 : ((i : Nat) : Int) < 8 := by omega
          have E1 : w64 (4 * (i : Int)) = 4 * (i : Int) := w64_d (by omega) (by omega)
          have E2 : w64 (8 * (i : Int)) = 8 * (i : Int) := w64_d (by omega) (by omega)
          have E3 : w64 (16384 + 8 * (i : Int)) = 16384 + 8 * (i : Int) := w64_d (by omega) (by omega)
          have E4 : w64 ((i : Int) + 1) = ((i + 1 : Nat) : Int) := by rw [w64_d (by omega) (by omega)]; omega
          have Q1 : (off = BitVec.ofInt 64 (4 * (i : Int))) = False := by rw [offi (by omega) (by omega)]; exact eq_false (by omega)
          have Q2 : (off = BitVec.ofInt 64 (16384 + 8 * (i : Int))) = False := by rw [offi (by omega) (by omega)]; exact eq_false (by omega)
          have Q3 : (off = BitVec.ofInt 64 (16384 + 8 * (i : Int)) + 4#64) = False := by rw [offi4 (by omega) (by omega)]; exact eq_false (by omega)
          (try simp (config := { maxSteps := 10000000 }) only [go_sem, seval, lt1, lt2, E1, E2, E3, E4, Q1, Q2, Q3]; repeat (simp (disch := omega) only [w64_d, ipos, ineg, dpos, dneg]; try simp (config := { maxSteps := 10000000 }) only [go_sem, seval, lt1, lt2, E1, E2, E3, E4, Q1, Q2, Q3]))
          exact ⟨i + 1, by omega, by omega, Wk.fq (by simp [Am.get])⟩
        · obtain rfl : i = h := by omega
          have lt1 : ((i : Nat) : Int) < (N : Int) := by omega
          have lt2 : ((i : Nat) : Int) < 8 := by omega
          have E1 : w64 (4 * (i : Int)) = 4 * (i : Int) := w64_d (by omega) (by omega)
          have E2 : w64 (8 * (i : Int)) = 8 * (i : Int) := w64_d (by omega) (by omega)
          have E3 : w64 (16384 + 8 * (i : Int)) = 16384 + 8 * (i : Int) := w64_d (by omega) (by omega)
          have E4 : w64 ((i : Int) + 1) = ((i + 1 : Nat) : Int) := by rw [w64_d (by omega) (by omega)]; omega
          have Q1 : (off = BitVec.ofInt 64 (4 * (i : Int))) = True := by rw [offi (by omega) (by omega)]; exact eq_true (by omega)
          (try simp (config := { maxSteps := 10000000 }) only [go_sem, seval, lt1, lt2, E1, E2, E3, E4, Q1]; repeat (simp (disch := omega) only [w64_d, ipos, ineg, dpos, dneg]; try simp (config := { maxSteps := 10000000 }) only [go_sem, seval, lt1, lt2, E1, E2, E3, E4, Q1]))
      | c2 h hn hs hm2 ha =>
        subst hs ha
        rw [show bitsC 8 ⟨2, h, 0#64⟩ = 0 by simp [bitsC]]
        (try simp (config := { maxSteps := 10000000 }) only [go_sem, seval]; repeat (simp (disch := omega) only [w64_d, ipos, ineg, dpos, dneg]; try simp (config := { maxSteps := 10000000 }) only [go_sem, seval]))
        refine arun_for h (fun i => ([(0, .c (.i N)), (1, .c (.u off)), (2, .c (.i 8)), (9, .c (.i i))], [])) (Wk.fq (by simp [Am.get])) fun i hi => ?_
        by_cases hlt : i < h
        · have lt1 : ((i : Nat) : Int) < (N : Int) := by omega
          have lt2 : ((i : Nat) : Int) < 8 := by omega
          have E1 : w64 (4 * (i : Int)) = 4 * (i : Int) := w64_d (by omega) (by omega)
          have E2 : w64 (8 * (i : Int)) = 8 * (i : Int) := w64_d (by omega) (by omega)
          have E3 : w64 (16384 + 8 * (i : Int)) = 16384 + 8 * (i : Int) := w64_d (by omega) (by omega)
          have E4 : w64 ((i : Int) + 1) = ((i + 1 : Nat) : Int) := by rw [w64_d (by omega) (by omega)]; omega
          have Q2 : (off = BitVec.ofInt 64 (16384 + 8 * (i : Int))) = False := by rw [offi (by omega) (by omega)]; exact eq_false (by omega)
          (try simp (config := { maxSteps := 10000000 }) only [go_sem, seval, lt1, lt2, E1, E2, E3, E4, Q2]; repeat (simp (disch := omega) only [w64_d, ipos, ineg, dpos, dneg]; try simp (config := { maxSteps := 10000000 }) only [go_sem, seval, lt1, lt2, E1, E2, E3, E4, Q2]))
          exact ⟨i + 1, by omega, by omega, Wk.fq (by simp [Am.get])⟩
        · obtain rfl : i = h := by omega
          have lt1 : ((i : Nat) : Int) < (N : Int) := by omega
          have lt2 : ((i : Nat) : Int) < 8 := by omega
          have E1 : w64 (4 * (i : Int)) = 4 * (i : Int) := w64_d (by omega) (by omega)
          have E2 : w64 (8 * (i : Int)) = 8 * (i : Int) := w64_d (by omega) (by omega)
          have E3 : w64 (16384 + 8 * (i : Int)) = 16384 + 8 * (i : Int) := w64_d (by omega) (by omega)
          have E4 : w64 ((i : Int) + 1) = ((i + 1 : Nat) : Int) := by rw [w64_d (by omega) (by omega)]; omega
          have Q2 : (off = BitVec.ofInt 64 (16384 + 8 * (i : Int))) = True := by rw [offi (by omega) (by omega)]; exact eq_true (by omega)
          (try simp (config := { maxSteps := 10000000 }) only [go_sem, seval, lt1, lt2, E1, E2, E3, E4, Q2]; repeat (simp (disch := omega) only [w64_d, ipos, ineg, dpos, dneg]; try simp (config := { maxSteps := 10000000 }) only [go_sem, seval, lt1, lt2, E1, E2, E3, E4, Q2]))
      | c3 h hn hs hm2 ha =>
        subst hs ha
        rw [show bitsC 4 ⟨2, h, 0#64⟩ = 1 by simp [bitsC]]
        (try simp (config := { maxSteps := 10000000 }) only [go_sem, seval]; repeat (simp (disch := omega) only [w64_d, ipos, ineg, dpos, dneg]; try simp (config := { maxSteps := 10000000 }) only [go_sem, seval]))
        refine arun_for h (fun i => ([(0, .c (.i N)), (1, .c (.u off)), (2, .c (.i 4)), (9, .c (.i i))], [])) (Wk.fq (by simp [Am.get])) fun i hi => ?_
        by_cases hlt : i < h
        · have lt1 : ((i : Nat) : Int) < (N : Int) := by omega
          have lt2 : ((i : Nat) : Int) < 8 := by omega
          have E1 : w64 (4 * (i : Int)) = 4 * (i : Int) := w64_d (by omega) (by omega)
          have E2 : w64 (8 * (i : Int)) = 8 * (i : Int) := w64_d (by omega) (by omega)
          have E3 : w64 (16384 + 8 * (i : Int)) = 16384 + 8 * (i : Int) := w64_d (by omega) (by omega)
          have E4 : w64 ((i : Int) + 1) = ((i + 1 : Nat) : Int) := by rw [w64_d (by omega) (by omega)]; omega
          have Q1 : (off = BitVec.ofInt 64 (4 * (i : Int))) = False := by rw [offi (by omega) (by omega)]; exact eq_false (by omega)
          have Q2 : (off = BitVec.ofInt 64 (16384 + 8 * (i : Int))) = False := by rw [offi (by omega) (by omega)]; exact eq_false (by omega)
          have Q3 : (off = BitVec.ofInt 64 (16384 + 8 * (i : Int)) + 4#64) = False := by rw [offi4 (by omega) (by omega)]; exact eq_false (by omega)
          (try simp (config := { maxSteps := 10000000 }) only [go_sem, seval, lt1, lt2, E1, E2, E3, E4, Q1, Q2, Q3]; repeat (simp (disch := omega) only [w64_d, ipos, ineg, dpos, dneg]; try simp (config := { maxSteps := 10000000 }) only [go_sem, seval, lt1, lt2, E1, E2, E3, E4, Q1, Q2, Q3]))
          exact ⟨i + 1, by omega, by omega, Wk.fq (by simp [Am.get])⟩
        · obtain rfl : i = h := by omega
          have lt1 : ((i : Nat) : Int) < (N : Int) := by omega
          have lt2 : ((i : Nat) : Int) < 8 := by omega
          have E1 : w64 (4 * (i : Int)) = 4 * (i : Int) := w64_d (by omega) (by omega)
          have E2 : w64 (8 * (i : Int)) = 8 * (i : Int) := w64_d (by omega) (by omega)
          have E3 : w64 (16384 + 8 * (i : Int)) = 16384 + 8 * (i : Int) := w64_d (by omega) (by omega)
          have E4 : w64 ((i : Int) + 1) = ((i + 1 : Nat) : Int) := by rw [w64_d (by omega) (by omega)]; omega
          have Q1 : (off = BitVec.ofInt 64 (4 * (i : Int))) = False := by rw [offi (by omega) (by omega)]; exact eq_false (by omega)
          have Q2 : (off = BitVec.ofInt 64 (16384 + 8 * (i : Int))) = True := by rw [offi (by omega) (by omega)]; exact eq_true (by omega)
          (try simp (config := { maxSteps := 10000000 }) only [go_sem, seval, lt1, lt2, E1, E2, E3, E4, Q1, Q2]; repeat (simp (disch := omega) only [w64_d, ipos, ineg, dpos, dneg]; try simp (config := { maxSteps := 10000000 }) only [go_sem, seval, lt1, lt2, E1, E2, E3, E4, Q1, Q2]))
      | c4 h hn hs hm2 ha =>
        subst hs ha
        rw [show bitsC 4 ⟨2, h, 32#64⟩ = 2 by simp [bitsC]]
        (try simp (config := { maxSteps := 10000000 }) only [go_sem, seval]; repeat (simp (disch := omega) only [w64_d, ipos, ineg, dpos, dneg]; try simp (config := { maxSteps := 10000000 }) only [go_sem, seval]))
        refine arun_for h (fun i => ([(0, .c (.i N)), (1, .c (.u off)), (2, .c (.i 4)), (9, .c (.i i))], [])) (Wk.fq (by simp [Am.get])) fun i hi => ?_
        by_cases hlt : i < h
        · have lt1 : ((i : Nat) : Int) < (N : Int) := by omega
          have lt2 : ((i : Nat) : Int) < 8 := by omega
          have E1 : w64 (4 * (i : Int)) = 4 * (i : Int) := w64_d (by omega) (by omega)
          have E2 : w64 (8 * (i : Int)) = 8 * (i : Int) := w64_d (by omega) (by omega)
          have E3 : w64 (16384 + 8 * (i : Int)) = 16384 + 8 * (i : Int) := w64_d (by omega) (by omega)
          have E4 : w64 ((i : Int) + 1) = ((i + 1 : Nat) : Int) := by rw [w64_d (by omega) (by omega)]; omega
          have Q1 : (off = BitVec.ofInt 64 (4 * (i : Int))) = False := by rw [offi (by omega) (by omega)]; exact eq_false (by omega)
          have Q2 : (off = BitVec.ofInt 64 (16384 + 8 * (i : Int))) = False := by rw [offi (by omega) (by omega)]; exact eq_false (by omega)
          have Q3 : (off = BitVec.ofInt 64 (16384 + 8 * (i : Int)) + 4#64) = False := by rw [offi4 (by omega) (by omega)]; exact eq_false (by omega)
          (try simp (config := { maxSteps := 10000000 }) only [go_sem, seval, lt1, lt2, E1, E2, E3, E4, Q1, Q2, Q3]; repeat (simp (disch := omega) only [w64_d, ipos, ineg, dpos, dneg]; try simp (config := { maxSteps := 10000000 }) only [go_sem, seval, lt1, lt2, E1, E2, E3, E4, Q1, Q2, Q3]))
          exact ⟨i + 1, by omega, by omega, Wk.fq (by simp [Am.get])⟩
        · obtain rfl : i = h := by omega
          have lt1 : ((i : Nat) : Int) < (N : Int) := by omega
          have lt2 : ((i : Nat) : Int) < 8 := by omega
          have E1 : w64 (4 * (i : Int)) = 4 * (i : Int) := w64_d (by omega) (by omega)
          have E2 : w64 (8 * (i : Int)) = 8 * (i : Int) := w64_d (by omega) (by omega)
          have E3 : w64 (16384 + 8 * (i : Int)) = 16384 + 8 * (i : Int) := w64_d (by omega) (by omega)
          have E4 : w64 ((i : Int) + 1) = ((i + 1 : Nat) : Int) := by rw [w64_d (by omega) (by omega)]; omega
          have Q1 : (off = BitVec.ofInt 64 (4 * (i : Int))) = False := by rw [offi (by omega) (by omega)]; exact eq_false (by omega)
          have Q2 : (off = BitVec.ofInt 64 (16384 + 8 * (i : Int))) = False := by rw [offi (by omega) (by omega)]; exact eq_false (by omega)
          have Q3 : (off = BitVec.ofInt 64 (16384 + 8 * (i : Int)) + 4#64) = True := by rw [offi4 (by omega) (by omega)]; exact eq_true (by omega)
          (try simp (config := { maxSteps := 10000000 }) only [go_sem, seval, lt1, lt2, E1, E2, E3, E4, Q1, Q2, Q3]; repeat (simp (disch := omega) only [w64_d, ipos, ineg, dpos, dneg]; try simp (config := { maxSteps := 10000000 }) only [go_sem, seval, lt1, lt2, E1, E2, E3, E4, Q1, Q2, Q3]))
      | c5 hs hm2 ha =>
        subst hs ha
        rw [show bitsC 8 ⟨3, 0, 0#64⟩ = 0 by simp [bitsC]]
        (try simp (config := { maxSteps := 10000000 }) only [go_sem, seval]; repeat (simp (disch := omega) only [w64_d, ipos, ineg, dpos, dneg]; try simp (config := { maxSteps := 10000000 }) only [go_sem, seval]))
        refine arun_for N (fun i => ([(0, .c (.i N)), (1, .c (.u off)), (2, .c (.i 8)), (9, .c (.i i))], [])) (Wk.fq (by simp [Am.get])) fun i hi => ?_
        by_cases hlt : i < N
        · have lt1 : ((i : Nat) : Int) < (N : Int) := by omega
          have lt2 : ((i : Nat) : Int) < 8 := by omega
          have E1 : w64 (4 * (i : Int)) = 4 * (i : Int) := w64_d (by omega) (by omega)
          have E2 : w64 (8 * (i : Int)) = 8 * (i : Int) := w64_d (by omega) (by omega)
          have E3 : w64 (16384 + 8 * (i : Int)) = 16384 + 8 * (i : Int) := w64_d (by omega) (by omega)
          have E4 : w64 ((i : Int) + 1) = ((i + 1 : Nat) : Int) := by rw [w64_d (by omega) (by omega)]; omega
          have Q2 : (off = BitVec.ofInt 64 (16384 + 8 * (i : Int))) = False := by rw [offi (by omega) (by omega)]; exact eq_false (by omega)
          (try simp (config := { maxSteps := 10000000 }) only [go_sem, seval, lt1, lt2, E1, E2, E3, E4, Q2]; repeat (simp (disch := omega) only [w64_d, ipos, ineg, dpos, dneg]; try simp (config := { maxSteps := 10000000 }) only [go_sem, seval, lt1, lt2, E1, E2, E3, E4, Q2]))
          exact ⟨i + 1, by omega, by omega, Wk.fq (by simp [Am.get])⟩
        · obtain rfl : i = N := by omega
          have n0 : (0 : Int) < (i : Int) := by omega
          have l1 := L1 hm2
          (try simp (config := { maxSteps := 10000000 }) only [go_sem, seval, n0, l1]; repeat (simp (disch := omega) only [w64_d, ipos, ineg, dpos, dneg]; try simp (config := { maxSteps := 10000000 }) only [go_sem, seval, n0, l1]))
      | c6 hs hm2 ha =>
        subst hs ha
        rw [show bitsC 4 ⟨3, 0, 0#64⟩ = 1 by simp [bitsC]]
        (try simp (config := { maxSteps := 10000000 }) only [go_sem, seval]; repeat (simp (disch := omega) only [w64_d, ipos, ineg, dpos, dneg]; try simp (config := { maxSteps := 10000000 }) only [go_sem, seval]))
        refine arun_for N (fun i => ([(0, .c (.i N)), (1, .c (.u off)), (2, .c (.i 4)), (9, .c (.i i))], [])) (Wk.fq (by simp [Am.get])) fun i hi => ?_
        by_cases hlt : i < N
        · have lt1 : ((i : Nat) : Int) < (N : Int) := by omega
          have lt2 : ((i : Nat) : Int) < 8 := by omega
          have E1 : w64 (4 * (i : Int)) = 4 * (i : Int) := w64_d (by omega) (by omega)
          have E2 : w64 (8 * (i : Int)) = 8 * (i : Int) := w64_d (by omega) (by omega)
          have E3 : w64 (16384 + 8 * (i : Int)) = 16384 + 8 * (i : Int) := w64_d (by omega) (by omega)
          have E4 : w64 ((i : Int) + 1) = ((i + 1 : Nat) : Int) := by rw [w64_d (by omega) (by omega)]; omega
          have Q1 : (off = BitVec.ofInt 64 (4 * (i : Int))) = False := by rw [offi (by omega) (by omega)]; exact eq_false (by omega)
          have Q2 : (off = BitVec.ofInt 64 (16384 + 8 * (i : Int))) = False := by rw [offi (by omega) (by omega)]; exact eq_false (by omega)
          have Q3 : (off = BitVec.ofInt 64 (16384 + 8 * (i : Int)) + 4#64) = False := by rw [offi4 (by omega) (by omega)]; exact eq_false (by omega)
          (try simp (config := { maxSteps := 10000000 }) only [go_sem, seval, lt1, lt2, E1, E2, E3, E4, Q1, Q2, Q3]; repeat (simp (disch := omega) only [w64_d, ipos, ineg, dpos, dneg]; try simp (config := { maxSteps := 10000000 }) only [go_sem, seval, lt1, lt2, E1, E2, E3, E4, Q1, Q2, Q3]))
          exact ⟨i + 1, by omega, by omega, Wk.fq (by simp [Am.get])⟩
        · obtain rfl : i = N := by omega
          have n0 : (0 : Int) < (i : Int) := by omega
          have l1 := L1 hm2
          (try simp (config := { maxSteps := 10000000 }) only [go_sem, seval, n0, l1]; repeat (simp (disch := omega) only [w64_d, ipos, ineg, dpos, dneg]; try simp (config := { maxSteps := 10000000 }) only [go_sem, seval, n0, l1]))
      | c7 hs hm2 ha =>
        subst hs ha
        rw [show bitsC 4 ⟨3, 0, 32#64⟩ = 2 by simp [bitsC]]
        (try simp (config := { maxSteps := 10000000 }) only [go_sem, seval]; repeat (simp (disch := omega) only [w64_d, ipos, ineg, dpos, dneg]; try simp (config := { maxSteps := 10000000 }) only [go_sem, seval]))
        refine arun_for N (fun i => ([(0, .c (.i N)), (1, .c (.u off)), (2, .c (.i 4)), (9, .c (.i i))], [])) (Wk.fq (by simp [Am.get])) fun i hi => ?_
        by_cases hlt : i < N
        · have lt1 : ((i : Nat) : Int) < (N : Int) := by omega
          have lt2 : ((i : Nat) : Int) < 8 := by omega
          have E1 : w64 (4 * (i : Int)) = 4 * (i : Int) := w64_d (by omega) (by omega)
          have E2 : w64 (8 * (i : Int)) = 8 * (i : Int) := w64_d (by omega) (by omega)
          have E3 : w64 (16384 + 8 * (i : Int)) = 16384 + 8 * (i : Int) := w64_d (by omega) (by omega)
          have E4 : w64 ((i : Int) + 1) = ((i + 1 : Nat) : Int) := by rw [w64_d (by omega) (by omega)]; omega
          have Q1 : (off = BitVec.ofInt 64 (4 * (i : Int))) = False := by rw [offi (by omega) (by omega)]; exact eq_false (by omega)
          have Q2 : (off = BitVec.ofInt 64 (16384 + 8 * (i : Int))) = False := by rw [offi (by omega) (by omega)]; exact eq_false (by omega)
          have Q3 : (off = BitVec.ofInt 64 (16384 + 8 * (i : Int)) + 4#64) = False := by rw [offi4 (by omega) (by omega)]; exact eq_false (by omega)
          (try simp (config := { maxSteps := 10000000 }) only [go_sem, seval, lt1, lt2, E1, E2, E3, E4, Q1, Q2, Q3]; repeat (simp (disch := omega) only [w64_d, ipos, ineg, dpos, dneg]; try simp (config := { maxSteps := 10000000 }) only [go_sem, seval, lt1, lt2, E1, E2, E3, E4, Q1, Q2, Q3]))
          exact ⟨i + 1, by omega, by omega, Wk.fq (by simp [Am.get])⟩
        · obtain rfl : i = N := by omega
          have n0 : (0 : Int) < (i : Int) := by omega
          have l1 := L1' (by omega)
          have l2 := L2 hm2
          (try simp (config := { maxSteps := 10000000 }) only [go_sem, seval, n0, l1, l2]; repeat (simp (disch := omega) only [w64_d, ipos, ineg, dpos, dneg]; try simp (config := { maxSteps := 10000000 }) only [go_sem, seval, n0, l1, l2]))
      | c0 ha h4 h8 =>
        subst ha
        have eb : bitsC sz ⟨0, 0, 0#64⟩ = 0 := by simp [bitsC]
        rw [eb]
        by_cases s4 : sz = 4
        · subst s4
          obtain ⟨g1, g2, g3⟩ := h4 rfl
          (try simp (config := { maxSteps := 10000000 }) only [go_sem, seval]; repeat (simp (disch := omega) only [w64_d, ipos, ineg, dpos, dneg]; try simp (config := { maxSteps := 10000000 }) only [go_sem, seval]))
          refine arun_for N (fun i => ([(0, .c (.i N)), (1, .c (.u off)), (2, .c (.i 4)), (9, .c (.i i))], [])) (Wk.fq (by simp [Am.get])) fun i hi => ?_
          by_cases hlt : i < N
          · obtain ⟨k1, k2, k3⟩ := g3 i (by omega)
            have lt1 : ((i : Nat) : Int) < (N : Int) := by omega
            have lt2 : ((i : Nat) : Int) < 8 := by omega
            have E1 : w64 (4 * (i : Int)) = 4 * (i : Int) := w64_d (by omega) (by omega)
            have E2 : w64 (8 * (i : Int)) = 8 * (i : Int) := w64_d (by omega) (by omega)
            have E3 : w64 (16384 + 8 * (i : Int)) = 16384 + 8 * (i : Int) := w64_d (by omega) (by omega)
            have E4 : w64 ((i : Int) + 1) = ((i + 1 : Nat) : Int) := by rw [w64_d (by omega) (by omega)]; omega
            have Q1 : (off = BitVec.ofInt 64 (4 * (i : Int))) = False := by rw [offi (by omega) (by omega)]; exact eq_false (by omega)
            have Q2 : (off = BitVec.ofInt 64 (16384 + 8 * (i : Int))) = False := by rw [offi (by omega) (by omega)]; exact eq_false (by omega)
            have Q3 : (off = BitVec.ofInt 64 (16384 + 8 * (i : Int)) + 4#64) = False := by rw [offi4 (by omega) (by omega)]; exact eq_false (by omega)
            (try simp (config := { maxSteps := 10000000 }) only [go_sem, seval, lt1, lt2, E1, E2, E3, E4, Q1, Q2, Q3]; repeat (simp (disch := omega) only [w64_d, ipos, ineg, dpos, dneg]; try simp (config := { maxSteps := 10000000 }) only [go_sem, seval, lt1, lt2, E1, E2, E3, E4, Q1, Q2, Q3]))
            exact ⟨i + 1, by omega, by omega, Wk.fq (by simp [Am.get])⟩
          · obtain rfl : i = N := by omega
            have n0 : (0 : Int) < (i : Int) := by omega
            have l1 := L1' g1
            have l2 := L2' g2
            (try simp (config := { maxSteps := 10000000 }) only [go_sem, seval, n0, l1, l2]; repeat (simp (disch := omega) only [w64_d, ipos, ineg, dpos, dneg]; try simp (config := { maxSteps := 10000000 }) only [go_sem, seval, n0, l1, l2]))
        by_cases s8 : sz = 8
        · subst s8
          obtain ⟨g1, g3⟩ := h8 rfl
          (try simp (config := { maxSteps := 10000000 }) only [go_sem, seval]; repeat (simp (disch := omega) only [w64_d, ipos, ineg, dpos, dneg]; try simp (config := { maxSteps := 10000000 }) only [go_sem, seval]))
          refine arun_for N (fun i => ([(0, .c (.i N)), (1, .c (.u off)), (2, .c (.i 8)), (9, .c (.i i))], [])) (Wk.fq (by simp [Am.get])) fun i hi => ?_
          by_cases hlt : i < N
          · have k2 := g3 i (by omega)
            have lt1 : ((i : Nat) : Int) < (N : Int) := by omega
            have lt2 : ((i : Nat) : Int) < 8 := by omega
            have E1 : w64 (4 * (i : Int)) = 4 * (i : Int) := w64_d (by omega) (by omega)
            have E2 : w64 (8 * (i : Int)) = 8 * (i : Int) := w64_d (by omega) (by omega)
            have E3 : w64 (16384 + 8 * (i : Int)) = 16384 + 8 * (i : Int) := w64_d (by omega) (by omega)
            have E4 : w64 ((i : Int) + 1) = ((i + 1 : Nat) : Int) := by rw [w64_d (by omega) (by omega)]; omega
            have Q2 : (off = BitVec.ofInt 64 (16384 + 8 * (i : Int))) = False := by rw [offi (by omega) (by omega)]; exact eq_false (by omega)
            (try simp (config := { maxSteps := 10000000 }) only [go_sem, seval, lt1, lt2, E1, E2, E3, E4, Q2]; repeat (simp (disch := omega) only [w64_d, ipos, ineg, dpos, dneg]; try simp (config := { maxSteps := 10000000 }) only [go_sem, seval, lt1, lt2, E1, E2, E3, E4, Q2]))
            exact ⟨i + 1, by omega, by omega, Wk.fq (by simp [Am.get])⟩
          · obtain rfl : i = N := by omega
            have n0 : (0 : Int) < (i : Int) := by omega
            have l1 := L1' g1
            (try simp (config := { maxSteps := 10000000 }) only [go_sem, seval, n0, l1]; repeat (simp (disch := omega) only [w64_d, ipos, ineg, dpos, dneg]; try simp (config := { maxSteps := 10000000 }) only [go_sem, seval, n0, l1]))
        have S4 : (sz = 4) = False := eq_false s4
        have S8 : (sz = 8) = False := eq_false s8
        (try simp (config := { maxSteps := 10000000 }) only [go_sem, seval]; repeat (simp (disch := omega) only [w64_d, ipos, ineg, dpos, dneg]; try simp (config := { maxSteps := 10000000 }) only [go_sem, seval]))
        refine arun_for N (fun i => ([(0, .c (.i N)), (1, .c (.u off)), (2, .c (.i sz)), (9, .c (.i i))], [])) (Wk.fq (by simp [Am.get])) fun i hi => ?_
        by_cases hlt : i < N
        · have lt1 : ((i : Nat) : Int) < (N : Int) := by omega
          have lt2 : ((i : Nat) : Int) < 8 := by omega
          have E1 : w64 (4 * (i : Int)) = 4 * (i : Int) := w64_d (by omega) (by omega)
          have E2 : w64 (8 * (i : Int)) = 8 * (i : Int) := w64_d (by omega) (by omega)
          have E3 : w64 (16384 + 8 * (i : Int)) = 16384 + 8 * (i : Int) := w64_d (by omega) (by omega)
          have E4 : w64 ((i : Int) + 1) = ((i + 1 : Nat) : Int) := by rw [w64_d (by omega) (by omega)]; omega
          (try simp (config := { maxSteps := 10000000 }) only [go_sem, seval, lt1, lt2, E1, E2, E3, E4, S4, S8]; repeat (simp (disch := omega) only [w64_d, ipos, ineg, dpos, dneg]; try simp (config := { maxSteps := 10000000 }) only [go_sem, seval, lt1, lt2, E1, E2, E3, E4, S4, S8]))
          exact ⟨i + 1, by omega, by omega, Wk.fq (by simp [Am.get])⟩
        · obtain rfl : i = N := by omega
          have n0 : (0 : Int) < (i : Int) := by omega
          (try simp (config := { maxSteps := 10000000 }) only [go_sem, seval, n0, S4, S8]; repeat (simp (disch := omega) only [w64_d, ipos, ineg, dpos, dneg]; try simp (config := { maxSteps := 10000000 }) only [go_sem, seval, n0, S4, S8]))
    · simp at h
  · simp at h
end
end Go.Proofs.Ytfddaaplnnlfoaa
