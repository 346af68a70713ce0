/- Contracts of layer 25, and of its reference. -/
import Derived.Test.YtanblagbkhpolaaR2
namespace Go.Proofs.Ytanblagbkhpolaa
open Go.Am
set_option linter.unusedSimpArgs false
set_option linter.unusedVariables false
noncomputable section

theorem shr_and (w : BitVec 64) (n : Nat) : (w >>> n) &&& 1#64 = b2 (w.getLsbD n) := by
  apply BitVec.eq_of_getLsbD_eq
  intro i hi
  rw [BitVec.getLsbD_and, BitVec.getLsbD_ushiftRight]
  by_cases h : i = 0
  · subst h
    unfold b2; cases w.getLsbD n <;> simp [*]
    all_goals simp_all
  · have h1 : (1#64).getLsbD i = false := by simp [h]
    have h2 : (b2 (w.getLsbD n)).getLsbD i = false := by
      unfold b2; cases w.getLsbD n <;> simp [h]
    rw [h1, h2]; simp
theorem b2_one {b : Bool} : (b2 b = 1#64) = (b = true) := by cases b <;> simp [b2]
def s_has (args : List AV) : Option AV :=
  match args with
  | [.c (.u p), .c (.i b)] => if 0 ≤ b ∧ b ≤ 63 then some (.c (.b (bitB p b))) else none
  | _ => none
theorem s_has_eq {p b} : s_has [.c (.u p), .c (.i b)] = if 0 ≤ b ∧ b ≤ 63 then some (.c (.b (bitB p b))) else none := rfl
set_option maxRecDepth 100000 in
set_option maxHeartbeats 2000000 in
theorem ok_has : PuOk Try.prog 45 s_has := by
  refine pu_ok (tab := []) hmix TabOk.nil Try.func45 rfl Try.results45 Try.ntmps45 (by kernel_rfl) (by kernel_rfl) ?_
  intro args v h
  unfold s_has at h
  split at h
  · rename_i p b
    split at h
    · rename_i hc
      simp only [Option.some.injEq] at h; subst h
      refine ⟨by simp only [List.length_cons, List.length_nil]; decide, rfl, rfl, ?_⟩
      obtain ⟨n, rfl⟩ := Int.eq_ofNat_of_zero_le hc.1
      have e1 := ofI_nat (n := n) (by omega)
      have e2 : decide (b2 (p.getLsbD n) = 1#64) = p.getLsbD n := by cases p.getLsbD n <;> rfl
      simp (config := { maxSteps := 10000000 }) only [go_sem, seval, e1, shr_and, e2, bitB_n]
    · simp at h
  · simp at h
def cell63 : Sc → Bool
  | .i x => decide (0 ≤ x ∧ x ≤ 63)
  | _ => false
def ci (l : List Sc) (i : Nat) : Int := match l.getD i .any with
  | .i x => x
  | _ => 0
theorem cell63_get {l : List Sc} {i : Nat} (h : l.all cell63 = true) (hi : i < l.length) : l.getD i .any = .i (ci l i) ∧ 0 ≤ ci l i ∧ ci l i ≤ 63 := by
  have e : l.getD i .any = l[i] := by simp [List.getD_eq_getElem?_getD, hi]
  have := List.all_eq_true.1 h l[i] (List.getElem_mem hi)
  unfold ci
  rw [e]
  cases hl : l[i] <;> rw [hl] at this <;> simp [cell63] at this
  exact ⟨rfl, this.1, this.2⟩
def someB (p : BitVec 64) (l : List Sc) : Nat → Bool
  | 0 => false
  | k + 1 => someB p l k || bitB p (ci l k)
def s_psome (args : List AV) (H : AH) : Option AV :=
  match args with
  | [.c (.u p), .c (.sl id 0 v n)] => if n ≤ 1000 ∧ n ≤ (hg H id).cells.length ∧ v = (hg H id).row ∧ (hg H id).cells.all cell63 = true then some (.c (.b (someB p (hg H id).cells n))) else none
  | _ => none
theorem s_psome_eq {p : BitVec 64} {id v n : Nat} {H : AH} : s_psome [.c (.u p), .c (.sl id 0 v n)] H = if n ≤ 1000 ∧ n ≤ (hg H id).cells.length ∧ v = (hg H id).row ∧ (hg H id).cells.all cell63 = true then some (.c (.b (someB p (hg H id).cells n))) else none := rfl
theorem someB_mono {p : BitVec 64} {l : List Sc} {k : Nat} : ∀ {n : Nat}, k ≤ n → someB p l k = true → someB p l n = true := by
  intro n hn h
  induction n with
  | zero => obtain rfl : k = 0 := by omega
            exact h
  | succ n ih =>
    rcases Nat.lt_or_ge k (n + 1) with h1 | h1
    · simp only [someB, ih (by omega), Bool.true_or]
    · obtain rfl : k = n + 1 := by omega
      exact h
set_option maxRecDepth 100000 in
set_option maxHeartbeats 2000000 in
theorem ok_psome : FpOk Try.prog 46 (fun args H => (s_psome args H).map fun v => (v, H)) := by
  refine fq_ok (s := s_psome) (tab := [(45, .pu s_has)]) hmix (TabOk.cons (e := .pu s_has) ok_has TabOk.nil) Try.func46 rfl Try.results46 Try.ntmps46 (by kernel_rfl) (by kernel_rfl) ?_
  intro args H v h hargs hH
  unfold s_psome at h
  split at h
  · rename_i p id v n
    split at h
    · rename_i hc
      obtain ⟨h1, h3, h4, h5⟩ := hc
      simp only [Option.some.injEq] at h
      subst h
      generalize hl : (hg H id).cells = l at *
      have lid : id < H.length := by simpa [AV.bel, Sc.bel] using hargs
      refine ⟨by simp only [List.length_cons, List.length_nil]; decide, rfl, ?_⟩
      simp (config := { maxSteps := 10000000 }) only [go_sem, seval, s_has_eq]
      rw [arun_loop]
      refine ⟨{k : Nat // k ≤ n ∧ someB p l k = false}, fun k => ([(0, .c (.u p)), (7, .c (.sl id 0 v n)), (8, .c (.i n)), (9, .c (.i k.1))], H), fun k => n - k.1, ⟨0, by omega, rfl⟩, ?_, ?_⟩
      · exact Wk.wk (by simp [lo]) (by simp [Am.get]) (by simp [AV.bel, Sc.bel, lid]) (subH_refl _) hH
      · rintro ⟨k, hk, hno⟩
        by_cases hlt : k < n
        · have e1 : w64 ((k : Int) + 1) = ((k + 1 : Nat) : Int) := by rw [w64_of (by omega)]; omega
          have e2 : ((k : Int) < (n : Int)) = True := eq_true (by omega)
          have e3 : (0 ≤ (k : Int)) = True := eq_true (by omega)
          have e4 : (k + 1 ≤ l.length) = True := eq_true (by omega)
          obtain ⟨g1, g2, g3⟩ := cell63_get h5 (i := k) (by omega)
          have g2 := eq_true g2
          have g3 := eq_true g3
          cases hb : bitB p (ci l k)
          · simp (config := { maxSteps := 10000000 }) only [go_sem, seval, s_has_eq, e1, e2, e3, hl, e4, ← h4, g1, g2, g3, hb]
            exact ⟨⟨k + 1, by omega, by simp only [someB, hno, hb]; rfl⟩, by simp; omega, Wk.wk (by simp [lo]) (by simp [Am.get]) (by simp [AV.bel, Sc.bel, lid]) (subH_refl _) hH⟩
          · have hy : someB p l n = true := someB_mono (k := k + 1) (by omega) (by simp only [someB, hb, Bool.or_true])
            simp (config := { maxSteps := 10000000 }) only [go_sem, seval, s_has_eq, e1, e2, e3, hl, e4, ← h4, g1, g2, g3, hb, hy]
            exact subH_refl _
        · obtain rfl : k = n := by omega
          have e2 : ((k : Int) < (k : Int)) = False := by simp
          simp (config := { maxSteps := 10000000 }) only [go_sem, seval, s_has_eq, e2, hno]
          exact subH_refl _
    · simp at h
  · simp at h
theorem some2 {p : BitVec 64} {a b : Int} : someB p [.i a, .i b] 2 = (bitB p a || bitB p b) := by simp only [someB, Bool.false_or]; rfl
theorem some3 {p : BitVec 64} {a b c : Int} : someB p [.i a, .i b, .i c] 3 = (bitB p a || bitB p b || bitB p c) := by simp only [someB, Bool.false_or]; rfl

/-- the letters of an entry's bits -/
def ch (k : Nat) : Int := ((((#[86, 82, 87, 88, 85, 71, 65, 68] : Array UInt8).getD k 0).toNat : Nat) : Int)
def posC (c : Int) : Int := if c = 86 then 0 else if c = 82 then 1 else if c = 87 then 2 else if c = 88 then 3 else if c = 85 then 4 else if c = 71 then 5 else if c = 65 then 6 else 7
theorem ch_eq : ∀ k < 8, ∀ j < 8, (ch k = ch j) = (k = j) := by
  intro k hk j hj
  have : ∀ k < 8, ∀ j < 8, (ch k = ch j) ↔ (k = j) := by decide
  exact propext (this k hk j hj)
theorem ch_pos : ∀ k < 8, posC (ch k) = k := by decide
def s_rbit25 (args : List AV) : Option AV :=
  match args with
  | [.c (.u p), .c (.k .u8 c)] => if c = 86 ∨ c = 82 ∨ c = 87 ∨ c = 88 ∨ c = 85 ∨ c = 71 ∨ c = 65 ∨ c = 68 then some (.c (.b (bitB p (posC c)))) else none
  | _ => none
theorem s_rbit25_eq {p c} : s_rbit25 [.c (.u p), .c (.k .u8 c)] = if c = 86 ∨ c = 82 ∨ c = 87 ∨ c = 88 ∨ c = 85 ∨ c = 71 ∨ c = 65 ∨ c = 68 then some (.c (.b (bitB p (posC c)))) else none := rfl
set_option maxRecDepth 100000 in
set_option maxHeartbeats 2000000 in
theorem ok_rbit25 : PuOk Try.prog 58 s_rbit25 := by
  refine pu_ok (tab := [(54, .pu s_bit)]) hmix (TabOk.cons (e := .pu s_bit) ok_bit TabOk.nil) Try.func58 rfl Try.results58 Try.ntmps58 (by kernel_rfl) (by kernel_rfl) ?_
  intro args v h
  unfold s_rbit25 at h
  split at h
  · rename_i p c
    split at h
    · rename_i hc
      simp only [Option.some.injEq] at h; subst h
      refine ⟨by simp only [List.length_cons, List.length_nil]; decide, rfl, rfl, ?_⟩
      obtain ⟨q, hq, rfl⟩ : ∃ q < 8, c = ch q := by
        rcases hc with rfl | rfl | rfl | rfl | rfl | rfl | rfl | rfl
        · exact ⟨0, by omega, rfl⟩
        · exact ⟨1, by omega, rfl⟩
        · exact ⟨2, by omega, rfl⟩
        · exact ⟨3, by omega, rfl⟩
        · exact ⟨4, by omega, rfl⟩
        · exact ⟨5, by omega, rfl⟩
        · exact ⟨6, by omega, rfl⟩
        · exact ⟨7, by omega, rfl⟩
      have hp := ch_pos q hq
      simp (config := { maxSteps := 10000000 }) only [go_sem, seval, s_bit_eq, ev_str]
      rw [arun_loop]
      refine ⟨{k : Nat // k ≤ q}, fun k => ([(0, .c (.u p)), (1, .c (.k .u8 (ch q))), (5, .c (.s ⟨#[86, 82, 87, 88, 85, 71, 65, 68]⟩)), (6, .c (.i k.1))], []), fun k => q - k.1, ⟨0, by omega⟩, ?_, ?_⟩
      · exact Wk.drop (by simp [Am.get]) rfl rfl rfl
      · rintro ⟨k, hk⟩
        have e1 : w64 ((k : Int) + 1) = ((k + 1 : Nat) : Int) := by rw [w64_of (by omega)]; omega
        have e2 : ((k : Int) < 8) = True := eq_true (by omega)
        have e3 : (0 ≤ (k : Int)) = True := eq_true (by omega)
        have e5 : (((((#[86, 82, 87, 88, 85, 71, 65, 68] : Array UInt8).getD k 0).toNat : Nat) : Int) = ch q) = (k = q) := ch_eq k (by omega) q hq
        by_cases h : k = q
        · subst h
          have e6 : decide (bitU p (k : Int) = 1#64) = bitB p (k : Int) := by rw [bitU_B]; cases bitB p (k : Int) <;> rfl
          simp (config := { maxSteps := 10000000 }) only [go_sem, seval, s_bit_eq, e1, e2, e3, bs_size, e5, e6, hp]
        · simp (config := { maxSteps := 10000000 }) only [go_sem, seval, s_bit_eq, e1, e2, e3, bs_size, e5, h]
          exact ⟨⟨k + 1, by omega⟩, by simp; omega, Wk.drop (by simp [Am.get]) rfl rfl rfl⟩
    · simp at h
  · simp at h

def s_ppn (args : List AV) : Option AV :=
  match args with
  | [.c (.u p)] => some (.c (.u (cutU p 10 44)))
  | _ => none
theorem s_ppn_eq {p} : s_ppn [.c (.u p)] = some (.c (.u (cutU p 10 44))) := rfl
set_option maxRecDepth 100000 in
set_option maxHeartbeats 2000000 in
theorem ok_ppn : PuOk Try.prog 24 s_ppn := by
  refine pu_ok (tab := [(50, .pu s_cut)]) hmix (TabOk.cons (e := .pu s_cut) ok_cut TabOk.nil) Try.func24 rfl Try.results24 Try.ntmps24 (by kernel_rfl) (by kernel_rfl) ?_
  intro args v h
  unfold s_ppn at h
  split at h
  · rename_i p
    simp only [Option.some.injEq] at h; subst h
    refine ⟨by simp only [List.length_cons, List.length_nil]; decide, rfl, rfl, ?_⟩
    have i1 : inR 10 := ⟨by omega, by omega⟩
    have i2 : inR 44 := ⟨by omega, by omega⟩
    simp (config := { maxSteps := 10000000 }) only [go_sem, seval, s_cut_eq, i1, i2]
  · simp at h
def s_rppn (args : List AV) : Option AV :=
  match args with
  | [.c (.u p)] => some (.c (.u (cutU p 10 44)))
  | _ => none
theorem s_rppn_eq {p} : s_rppn [.c (.u p)] = some (.c (.u (cutU p 10 44))) := rfl
set_option maxRecDepth 100000 in
set_option maxHeartbeats 2000000 in
theorem ok_rppn : PuOk Try.prog 31 s_rppn := by
  refine pu_ok (tab := [(56, .pu s_rcut)]) hmix (TabOk.cons (e := .pu s_rcut) ok_rcut TabOk.nil) Try.func31 rfl Try.results31 Try.ntmps31 (by kernel_rfl) (by kernel_rfl) ?_
  intro args v h
  unfold s_rppn at h
  split at h
  · rename_i p
    simp only [Option.some.injEq] at h; subst h
    refine ⟨by simp only [List.length_cons, List.length_nil]; decide, rfl, rfl, ?_⟩
    have i1 : inR 10 := ⟨by omega, by omega⟩
    have i2 : inR 44 := ⟨by omega, by omega⟩
    simp (config := { maxSteps := 10000000 }) only [go_sem, seval, s_rcut_eq, i1, i2]
  · simp at h
def makeU (a b : BitVec 64) : BitVec 64 := lowU a 44 <<< 10 ||| lowU b 10
/-- what an entry is -/
def kindU (p : BitVec 64) (l : Int) : Int :=
  if l < 0 then 0 else if 2 < l then 0 else if bitB p 0 = false then 0 else if bitB p 2 = true ∧ bitB p 1 = false then 0 else if p >>> 54 ≠ 0#64 then 0
  else if bitB p 1 = true ∨ bitB p 3 = true then (if lowU (cutU p 10 44) (9 * l) ≠ 0#64 then 0 else 2)
  else if l = 0 then 0 else if bitB p 4 = true ∨ bitB p 6 = true ∨ bitB p 7 = true then 0 else 1

def s_pkind (args : List AV) : Option AV :=
  match args with
  | [.c (.u p), .c (.i l)] => some (.c (.i (kindU p l)))
  | _ => none
theorem s_pkind_eq {p l} : s_pkind [.c (.u p), .c (.i l)] = some (.c (.i (kindU p l))) := rfl
set_option maxRecDepth 100000 in
set_option maxHeartbeats 2000000 in
theorem ok_pkind : PuOk Try.prog 19 s_pkind := by
  refine pu_ok (tab := [(45, .pu s_has), (46, .fq s_psome), (24, .pu s_ppn), (47, .pu s_low)]) hmix (TabOk.cons (e := .pu s_has) ok_has (TabOk.cons (e := .fq s_psome) ok_psome (TabOk.cons (e := .pu s_ppn) ok_ppn (TabOk.cons (e := .pu s_low) ok_low TabOk.nil)))) Try.func19 rfl Try.results19 Try.ntmps19 (by kernel_rfl) (by kernel_rfl) ?_
  intro args v h
  unfold s_pkind at h
  split at h
  · rename_i p l
    simp only [Option.some.injEq] at h; subst h
    refine ⟨by simp only [List.length_cons, List.length_nil]; decide, rfl, rfl, ?_⟩
    by_cases h1 : l < 0
    · simp (config := { maxSteps := 10000000 }) only [go_sem, seval, s_has_eq, s_psome_eq, s_ppn_eq, s_low_eq, kindU, h1, or_true, true_or, false_and, and_false, Bool.true_or, Bool.or_true, Bool.false_or, Bool.or_false, Bool.or_self, or_self, false_or, or_false, ne_eq, not_true, not_false_iff, some2, some3, cell63]
    by_cases h2 : 2 < l
    · simp (config := { maxSteps := 10000000 }) only [go_sem, seval, s_has_eq, s_psome_eq, s_ppn_eq, s_low_eq, kindU, h1, h2, or_true, true_or, false_and, and_false, Bool.true_or, Bool.or_true, Bool.false_or, Bool.or_false, Bool.or_self, or_self, false_or, or_false, ne_eq, not_true, not_false_iff, some2, some3, cell63]
    have e9 : w64 (9 * l) = 9 * l := w64_of (by omega)
    have i9 : inR (9 * l) := ⟨by omega, by omega⟩
    cases hV : bitB p 0
    · simp (config := { maxSteps := 10000000 }) only [go_sem, seval, s_has_eq, s_psome_eq, s_ppn_eq, s_low_eq, kindU, h1, h2, hV, or_true, true_or, false_and, and_false, Bool.true_or, Bool.or_true, Bool.false_or, Bool.or_false, Bool.or_self, or_self, false_or, or_false, ne_eq, not_true, not_false_iff, e9, i9, some2, some3, cell63]
    cases hW : bitB p 2
    · have hq : (bitB p 2 = true ∧ bitB p 1 = false) = False := by rw [hW]; simp
      rw [hW] at hq
      by_cases h54 : p >>> 54 = 0#64
      rotate_left
      · simp (config := { maxSteps := 10000000 }) only [go_sem, seval, s_has_eq, s_psome_eq, s_ppn_eq, s_low_eq, kindU, h1, h2, hV, hW, hq, h54, or_true, true_or, false_and, and_false, Bool.true_or, Bool.or_true, Bool.false_or, Bool.or_false, Bool.or_self, ne_eq, not_true, not_false_iff, e9, i9, some2, some3, cell63]
      cases hR : bitB p 1
      rotate_left
      · by_cases hlow : lowU (cutU p 10 44) (9 * l) = 0#64
        · simp (config := { maxSteps := 10000000 }) only [go_sem, seval, s_has_eq, s_psome_eq, s_ppn_eq, s_low_eq, kindU, h1, h2, hV, hW, hq, h54, hR, hlow, or_true, true_or, false_and, and_false, Bool.true_or, Bool.or_true, Bool.false_or, Bool.or_false, Bool.or_self, or_self, false_or, or_false, ne_eq, not_true, not_false_iff, e9, i9, some2, some3, cell63]
        · simp (config := { maxSteps := 10000000 }) only [go_sem, seval, s_has_eq, s_psome_eq, s_ppn_eq, s_low_eq, kindU, h1, h2, hV, hW, hq, h54, hR, hlow, or_true, true_or, false_and, and_false, Bool.true_or, Bool.or_true, Bool.false_or, Bool.or_false, Bool.or_self, or_self, false_or, or_false, ne_eq, not_true, not_false_iff, e9, i9, some2, some3, cell63]
      cases hX : bitB p 3
      rotate_left
      · by_cases hlow : lowU (cutU p 10 44) (9 * l) = 0#64
        · simp (config := { maxSteps := 10000000 }) only [go_sem, seval, s_has_eq, s_psome_eq, s_ppn_eq, s_low_eq, kindU, h1, h2, hV, hW, hq, h54, hR, hX, hlow, or_true, true_or, false_and, and_false, Bool.true_or, Bool.or_true, Bool.false_or, Bool.or_false, Bool.or_self, or_self, false_or, or_false, ne_eq, not_true, not_false_iff, e9, i9, some2, some3, cell63]
        · simp (config := { maxSteps := 10000000 }) only [go_sem, seval, s_has_eq, s_psome_eq, s_ppn_eq, s_low_eq, kindU, h1, h2, hV, hW, hq, h54, hR, hX, hlow, or_true, true_or, false_and, and_false, Bool.true_or, Bool.or_true, Bool.false_or, Bool.or_false, Bool.or_self, or_self, false_or, or_false, ne_eq, not_true, not_false_iff, e9, i9, some2, some3, cell63]
      by_cases h0 : l = 0
      · simp (config := { maxSteps := 10000000 }) only [go_sem, seval, s_has_eq, s_psome_eq, s_ppn_eq, s_low_eq, kindU, h1, h2, hV, hW, hq, h54, hR, hX, h0, or_true, true_or, false_and, and_false, Bool.true_or, Bool.or_true, Bool.false_or, Bool.or_false, Bool.or_self, or_self, false_or, or_false, ne_eq, not_true, not_false_iff, e9, i9, some2, some3, cell63]
      have hU2 : (bitB p 4 = true ∨ bitB p 6 = true ∨ bitB p 7 = true) = ((bitB p 4 || bitB p 6 || bitB p 7) = true) := by simp [or_assoc]
      cases hU : (bitB p 4 || bitB p 6 || bitB p 7)
      · simp (config := { maxSteps := 10000000 }) only [go_sem, seval, s_has_eq, s_psome_eq, s_ppn_eq, s_low_eq, kindU, h1, h2, hV, hW, hq, h54, hR, hX, h0, hU2, hU, or_true, true_or, false_and, and_false, Bool.true_or, Bool.or_true, Bool.false_or, Bool.or_false, Bool.or_self, or_self, false_or, or_false, ne_eq, not_true, not_false_iff, e9, i9, some2, some3, cell63]
      · simp (config := { maxSteps := 10000000 }) only [go_sem, seval, s_has_eq, s_psome_eq, s_ppn_eq, s_low_eq, kindU, h1, h2, hV, hW, hq, h54, hR, hX, h0, hU2, hU, or_true, true_or, false_and, and_false, Bool.true_or, Bool.or_true, Bool.false_or, Bool.or_false, Bool.or_self, or_self, false_or, or_false, ne_eq, not_true, not_false_iff, e9, i9, some2, some3, cell63]
    · cases hR : bitB p 1
      · simp (config := { maxSteps := 10000000 }) only [go_sem, seval, s_has_eq, s_psome_eq, s_ppn_eq, s_low_eq, kindU, h1, h2, hV, hW, hR, or_true, true_or, false_and, and_false, Bool.true_or, Bool.or_true, Bool.false_or, Bool.or_false, Bool.or_self, or_self, false_or, or_false, ne_eq, not_true, not_false_iff, e9, i9, some2, some3, cell63]
      · skip
        by_cases h54 : p >>> 54 = 0#64
        rotate_left
        · simp (config := { maxSteps := 10000000 }) only [go_sem, seval, s_has_eq, s_psome_eq, s_ppn_eq, s_low_eq, kindU, h1, h2, hV, hW, hR, h54, or_true, true_or, false_and, and_false, Bool.true_or, Bool.or_true, Bool.false_or, Bool.or_false, Bool.or_self, ne_eq, not_true, not_false_iff, e9, i9, some2, some3, cell63]
        by_cases hlow : lowU (cutU p 10 44) (9 * l) = 0#64
        · simp (config := { maxSteps := 10000000 }) only [go_sem, seval, s_has_eq, s_psome_eq, s_ppn_eq, s_low_eq, kindU, h1, h2, hV, hW, hR, h54, hlow, or_true, true_or, false_and, and_false, Bool.true_or, Bool.or_true, Bool.false_or, Bool.or_false, Bool.or_self, or_self, false_or, or_false, ne_eq, not_true, not_false_iff, e9, i9, some2, some3, cell63]
        · simp (config := { maxSteps := 10000000 }) only [go_sem, seval, s_has_eq, s_psome_eq, s_ppn_eq, s_low_eq, kindU, h1, h2, hV, hW, hR, h54, hlow, or_true, true_or, false_and, and_false, Bool.true_or, Bool.or_true, Bool.false_or, Bool.or_false, Bool.or_self, or_self, false_or, or_false, ne_eq, not_true, not_false_iff, e9, i9, some2, some3, cell63]
  · simp at h

end
end Go.Proofs.Ytanblagbkhpolaa
