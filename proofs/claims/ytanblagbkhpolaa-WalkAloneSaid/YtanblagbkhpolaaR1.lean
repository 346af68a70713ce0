/- Contracts of layer 1's reference: words out of lists of bits. -/
import Derived.Test.YtanblagbkhpolaaB1
namespace Go.Proofs.Ytanblagbkhpolaa
open Go.Am
set_option linter.unusedSimpArgs false
set_option linter.unusedVariables false
noncomputable section

/-- a word out of a cell -/
def cellU : Sc → BitVec 64
  | .u x => x
  | _ => 0#64
def cellIs : Sc → Bool
  | .u _ => true
  | _ => false
theorem cell_get {l : List Sc} {i : Nat} (h : l.all cellIs = true) (hi : i < l.length) : l.getD i .any = .u (cellU (l.getD i .any)) := by
  have e : l.getD i .any = l[i] := by simp [List.getD_eq_getElem?_getD, hi]
  rw [e]
  have := List.all_eq_true.1 h l[i] (List.getElem_mem hi)
  cases hl : l[i] <;> rw [hl] at this <;> simp [cellIs] at this; rfl
/-- the word behind j of a list's cells, from the last one on -/
def ofW (l : List Sc) : Nat → BitVec 64
  | 0 => 0#64
  | j + 1 => 2#64 * ofW l j + cellU (l.getD (l.length - 1 - j) .any)
def s_of (args : List AV) (H : AH) : Option AV :=
  match args with
  | [.c (.sl id 0 v n)] => if n ≤ 64 ∧ n = (hg H id).cells.length ∧ v = (hg H id).row ∧ (hg H id).cells.all cellIs = true then some (.c (.u (ofW (hg H id).cells n))) else none
  | _ => none
theorem s_of_eq {id v n : Nat} {H : AH} : s_of [.c (.sl id 0 v n)] H = if n ≤ 64 ∧ n = (hg H id).cells.length ∧ v = (hg H id).row ∧ (hg H id).cells.all cellIs = true then some (.c (.u (ofW (hg H id).cells n))) else none := rfl
set_option maxRecDepth 100000 in
set_option maxHeartbeats 2000000 in
theorem ok_of : FpOk Try.prog 81 (fun args H => (s_of args H).map fun v => (v, H)) := by
  refine fq_ok (s := s_of) (tab := []) hmix TabOk.nil Try.func81 rfl Try.results81 Try.ntmps81 (by kernel_rfl) (by kernel_rfl) ?_
  intro args H v h hargs hH
  unfold s_of at h
  split at h
  · rename_i id v n
    split at h
    · rename_i hc
      obtain ⟨h1, h3, h4, h5⟩ := hc
      simp only [Option.some.injEq] at h
      subst h
      generalize hl : (hg H id).cells = l at *
      refine ⟨by simp only [List.length_cons, List.length_nil]; decide, rfl, ?_⟩
      have lid : id < H.length := by simpa [AV.bel, Sc.bel] using hargs
      have e0 : w64 ((n : Int) - 1) = (n : Int) - 1 := w64_of (by omega)
      simp (config := { maxSteps := 10000000 }) only [go_sem, seval, e0]
      rw [arun_loop]
      refine ⟨{k : Nat // k ≤ n}, fun k => ([(0, .c (.sl id 0 v n)), (3, .c (.u (ofW l k.1))), (4, .c (.i (n - 1 - k.1)))], H), fun k => n - k.1, ⟨0, by omega⟩, ?_, ?_⟩
      · exact Wk.wk (by simp [lo]) (by simp [Am.get, ofW]) (by simp [AV.bel, Sc.bel, lid]) (subH_refl _) hH
      · rintro ⟨k, hk⟩
        by_cases hlt : k < n
        · have e1 : w64 ((n : Int) - 1 - (k : Int) - 1) = (n : Int) - 1 - ((k + 1 : Nat) : Int) := by rw [w64_of (by omega)]; omega
          have e2 : ((0 : Int) ≤ (n : Int) - 1 - (k : Int)) = True := by simp; omega
          have e3 : ((n : Int) - 1 - (k : Int) < 64) = True := by simp; omega
          have e5 : ((n : Int) - 1 - (k : Int) < (n : Int)) = True := by simp; omega
          have e4 : ((n : Int) - 1 - (k : Int)).toNat = n - 1 - k := by omega
          have e6 : (n - 1 - k + 1 ≤ l.length) = True := by simp; omega
          have e7 := cell_get h5 (i := n - 1 - k) (by omega)
          simp (config := { maxSteps := 10000000 }) only [go_sem, seval, e1, e2, e3, e4, e5, e6, hl, ← h4]
          rw [e7]
          simp (config := { maxSteps := 10000000 }) only [go_sem, seval, e1]
          exact ⟨⟨k + 1, by omega⟩, by simp; omega, Wk.wk (by simp [lo]) (by simp [Am.get, ofW, h3]) (by simp [AV.bel, Sc.bel, lid]) (subH_refl _) hH⟩
        · obtain rfl : k = n := by omega
          have e2 : (0 ≤ (k : Int) - 1 - (k : Int)) = False := by simp; omega
          simp (config := { maxSteps := 10000000 }) only [go_sem, seval, e2]
          exact subH_refl _
    · simp at h
  · simp at h

/-- a list of bits, as cells -/
def lst (g : Nat → Bool) (k : Nat) : List Sc := (List.range k).map fun i => .u (b2 (g i))
theorem lst_len {g : Nat → Bool} {k : Nat} : (lst g k).length = k := by simp [lst]
theorem lst_succ {g : Nat → Bool} {k : Nat} : lst g (k + 1) = lst g k ++ [.u (b2 (g k))] := by simp [lst, List.range_succ]
theorem lst_cells {g : Nat → Bool} {k : Nat} : (lst g k).all cellIs = true := by simp [lst, cellIs]
theorem lst_get {g : Nat → Bool} {k i : Nat} (h : i < k) : (lst g k).getD i .any = .u (b2 (g i)) := by simp [lst, List.getD_eq_getElem?_getD, h]
theorem lst_bel {g : Nat → Bool} {k n : Nat} : (lst g k).all (Sc.bel n) = true := by simp [lst, Sc.bel]
theorem dbl {w : BitVec 64} {c : Bool} {i : Nat} (hi : i < 64) : (2#64 * w + b2 c).getLsbD i = if i = 0 then c else w.getLsbD (i - 1) := by
  have h0 : 2#64 * w = w <<< 1 := by
    apply BitVec.eq_of_toNat_eq
    rw [BitVec.toNat_mul, BitVec.toNat_shiftLeft, Nat.shiftLeft_eq, BitVec.toNat_ofNat]
    congr 1; omega
  have h1 : ∀ i, (b2 c).getLsbD i = (decide (i = 0) && c) := by
    intro i; unfold b2; cases c
    · simp
    · by_cases h : i = 0
      · subst h; simp
      · simp [h]
  have h : (w <<< 1) &&& b2 c = 0#64 := by
    apply BitVec.eq_of_getLsbD_eq
    intro i hi
    rw [BitVec.getLsbD_and, BitVec.getLsbD_shiftLeft, h1]
    by_cases h : i = 0
    · subst h; simp
    · simp [h]
  rw [h0, BitVec.add_eq_or_of_and_eq_zero _ _ h, BitVec.getLsbD_or, BitVec.getLsbD_shiftLeft, h1]
  by_cases h : i = 0
  · subst h; simp
  · have h2 : ¬ i < 1 := by omega
    simp [h, h2, hi]
/-- the word of a list of bits -/
theorem ofW_bits (g : Nat → Bool) (n : Nat) : ∀ j, j ≤ n → ∀ i, i < 64 → (ofW (lst g n) j).getLsbD i = (decide (i < j) && g (n - j + i)) := by
  intro j
  induction j with
  | zero => intro _ i _; simp [ofW]
  | succ j ih =>
    intro hj i hi
    simp only [ofW, lst_len]
    rw [lst_get (by omega)]
    simp only [cellU]
    rw [dbl hi]
    by_cases h : i = 0
    · subst h
      have e : n - 1 - j = n - (j + 1) + 0 := by omega
      simp [e]
    · rw [if_neg h, ih (by omega) _ (by omega)]
      have e : n - j + (i - 1) = n - (j + 1) + i := by omega
      have e2 : decide (i - 1 < j) = decide (i < j + 1) := decide_eq_decide.2 (by omega)
      rw [e, e2]
theorem ofW_eq (g : Nat → Bool) : ofW (lst g 64) 64 = ofG g := by
  refine ofG_ext fun i hi => ?_
  rw [ofW_bits g 64 64 (by omega) i hi]
  simp [hi]

/-- which bit of a part one is -/
def inK (a s : Int) (b : Int) : Int := if a ≤ b ∧ b < a + s then min (b - a) 1000 else 0
def inB (a s : Int) (b : Int) : Bool := decide (a ≤ b ∧ b < a + s)
theorem inB_P {a s : Int} {i : Nat} : inB a s i = inP a s i := rfl
def s_rin (args : List AV) : Option AV :=
  match args with
  | [.c (.i a), .c (.i s), .c (.i b)] => if inR a ∧ inR s ∧ (0 ≤ b ∧ b ≤ 63) then some (.t [.c (.i (inK a s b)), .c (.b (inB a s b))]) else none
  | _ => none
theorem s_rin_eq {a s b} : s_rin [.c (.i a), .c (.i s), .c (.i b)] = if inR a ∧ inR s ∧ (0 ≤ b ∧ b ≤ 63) then some (.t [.c (.i (inK a s b)), .c (.b (inB a s b))]) else none := rfl
set_option maxRecDepth 100000 in
set_option maxHeartbeats 2000000 in
theorem ok_rin : PuOk Try.prog 80 s_rin := by
  refine pu_ok (tab := []) hmix TabOk.nil Try.func80 rfl Try.results80 Try.ntmps80 (by kernel_rfl) (by kernel_rfl) ?_
  intro args v h
  unfold s_rin at h
  split at h
  · rename_i a s b
    split at h
    · rename_i hc
      simp only [Option.some.injEq] at h; subst h
      refine ⟨by simp only [List.length_cons, List.length_nil]; decide, rfl, rfl, ?_⟩
      obtain ⟨⟨al, ah⟩, ⟨sl, sh⟩, b0, b1⟩ := hc
      by_cases h1 : s < 1
      · have e1 : inK a s b = 0 := if_neg (by omega)
        have e2 : inB a s b = false := decide_eq_false (by omega)
        simp (config := { maxSteps := 10000000 }) only [go_sem, seval, h1, e1, e2]
      · by_cases h2 : b < a
        · have e1 : inK a s b = 0 := if_neg (by omega)
          have e2 : inB a s b = false := decide_eq_false (by omega)
          simp (config := { maxSteps := 10000000 }) only [go_sem, seval, h1, h2, e1, e2]
        · obtain ⟨n, hn⟩ := Int.eq_ofNat_of_zero_le (by omega : 0 ≤ b - a)
          obtain ⟨m, rfl⟩ := Int.eq_ofNat_of_zero_le (by omega : 0 ≤ s)
          have e0 : BitVec.ofInt 64 b - BitVec.ofInt 64 a = BitVec.ofNat 64 n := by
            rw [← BitVec.ofInt_natCast, ← hn]
            apply BitVec.eq_of_toNat_eq
            rw [BitVec.toNat_sub, BitVec.toNat_ofInt, BitVec.toNat_ofInt, BitVec.toNat_ofInt]; omega
          have e3 : BitVec.ofInt 64 (m : Int) = BitVec.ofNat 64 m := BitVec.ofInt_natCast ..
          by_cases h3 : m ≤ n
          · have e1 : inK a m b = 0 := if_neg (by omega)
            have e2 : inB a m b = false := decide_eq_false (by omega)
            have e4 : (BitVec.ofNat 64 m ≤ BitVec.ofNat 64 n) = True := by simp [BitVec.le_def]; omega
            simp (config := { maxSteps := 10000000 }) only [go_sem, seval, h1, h2, e1, e2, e0, e3, e4]
          · have e2 : inB a m b = true := decide_eq_true (by omega)
            have e4 : (BitVec.ofNat 64 m ≤ BitVec.ofNat 64 n) = False := by simp [BitVec.le_def]; omega
            by_cases h5 : 1000 < n
            · have e1 : inK a m b = 1000 := by unfold inK; rw [if_pos (by omega)]; omega
              have e5 : (1000#64 < BitVec.ofNat 64 n) = True := by simp [BitVec.lt_def]; omega
              simp (config := { maxSteps := 10000000 }) only [go_sem, seval, h1, h2, e1, e2, e0, e3, e4, e5]
            · have e1 : inK a m b = (n : Int) := by unfold inK; rw [if_pos (by omega)]; omega
              have e5 : (1000#64 < BitVec.ofNat 64 n) = False := by simp [BitVec.lt_def]; omega
              have e6 : (BitVec.ofNat 64 n).toInt = (n : Int) := by rw [BitVec.toInt_eq_toNat_cond]; simp; omega
              simp (config := { maxSteps := 10000000 }) only [go_sem, seval, h1, h2, e1, e2, e0, e3, e4, e5, e6]
    · simp at h
  · simp at h

end
end Go.Proofs.Ytanblagbkhpolaa
