/- Layer 32: numbers of memory: contracts. -/
import Derived.Test.YtcbhelkafelofaaGreatFl4
namespace Go.Proofs.YtcbhelkafelofaaGreat
open Go.Am
set_option linter.unusedSimpArgs false
set_option linter.unusedVariables false
noncomputable section
set_option maxRecDepth 100000

section
variable {H : AH}
theorem fin_refF {n : Nat} : Nat.le n n := Nat.le_refl n
theorem s_fspot_nil {a : BitVec 64} {n : Int} : s_fspot [.c .nilp, .c (.u a), .c (.i n)] H = some (.t [.c (.i 0), .c (.b false)]) := rfl
theorem s_fspot_eq {p : Nat} {x : Sc} {B : List Int} {a : BitVec 64} {n : Int} (h : wdR H p = some (x, B)) (hl : B.length ≤ 262144) (hn : n ≤ 9223372036854775807) : s_fspot [.c (.p p 0 0), .c (.u a), .c (.i n)] H = some (if hasF B.length a n = true then .t [.c (.i (ofF a)), .c (.b true)] else .t [.c (.i 0), .c (.b false)]) := by
  simp only [s_fspot, h]; rw [if_pos ⟨hl, hn⟩]
noncomputable def ldV (B : List Int) (a : BitVec 64) (n : Int) : AV := if hasF B.length a n = true ∧ n ≤ 8 then .t [.c (.u (numF ((B.drop (ofF a)).take n.toNat))), .c (.b true)] else .t [.c (.u 0#64), .c (.b false)]
noncomputable def s_fload (args : List AV) (H : AH) : Option AV :=
  match args with
  | [.c .nilp, .c (.u _), .c (.i _)] => some (.t [.c (.u 0#64), .c (.b false)])
  | [.c (.p p 0 0), .c (.u a), .c (.i n)] =>
    match wdR H p with
    | some (_, B) => if B.length ≤ 262144 ∧ n ≤ 9223372036854775807 then some (ldV B a n) else none
    | none => none
  | _ => none
theorem s_fload_nil {a : BitVec 64} {n : Int} : s_fload [.c .nilp, .c (.u a), .c (.i n)] H = some (.t [.c (.u 0#64), .c (.b false)]) := rfl
theorem s_fload_eq {p : Nat} {x : Sc} {B : List Int} {a : BitVec 64} {n : Int} (h : wdR H p = some (x, B)) (hl : B.length ≤ 262144) (hn : n ≤ 9223372036854775807) : s_fload [.c (.p p 0 0), .c (.u a), .c (.i n)] H = some (ldV B a n) := by
  simp only [s_fload, h]; rw [if_pos ⟨hl, hn⟩]
set_option maxRecDepth 100000 in
set_option maxHeartbeats 2000000 in
theorem ok_fload : FpOk Tryz.prog 5 (fun args H => (s_fload args H).map fun v => (v, H)) := by
  refine fq_ok (s := s_fload) (tab := [(29, .fq s_fspot), (30, .fq s_fnum)]) hmix (TabOk.cons (e := .fq s_fspot) ok_fspot (TabOk.cons (e := .fq s_fnum) ok_fnum TabOk.nil)) Tryz.func5 rfl Tryz.results5 Tryz.ntmps5 (by kernel_rfl) (by kernel_rfl) ?_
  intro args H v h hargs hH
  unfold s_fload at h
  split at h
  · simp only [Option.some.injEq] at h
    subst h
    refine ⟨by simp only [List.length_cons, List.length_nil]; decide, rfl, ?_⟩
    (try simp (config := { maxSteps := 10000000 }) only [go_sem, seval, s_fspot_nil]; repeat (simp (disch := omega) only [w64_d, ipos, ineg, dpos, dneg]; try simp (config := { maxSteps := 10000000 }) only [go_sem, seval, s_fspot_nil]))
    exact subH_refl _
  · rename_i p a n
    split at h <;> try (simp at h; done)
    rename_i x B hx
    split at h <;> try (simp at h; done)
    rename_i hc
    obtain ⟨hB, hn⟩ := hc
    simp only [Option.some.injEq] at h
    subst h
    refine ⟨by simp only [List.length_cons, List.length_nil]; decide, by unfold ldV; split <;> rfl, ?_⟩
    obtain ⟨c1, c2, c3, c4, r, ho, hcut⟩ := wdR_inv hx
    have sp := s_fspot_eq hx hB hn (a := a)
    by_cases hh : hasF B.length a n = true
    · rw [if_pos hh] at sp
      by_cases h8 : 8 < n
      · have e : ldV B a n = .t [.c (.u 0#64), .c (.b false)] := if_neg (by omega)
        rw [e]
        (try simp (config := { maxSteps := 10000000 }) only [go_sem, seval, sp, h8]; repeat (simp (disch := omega) only [w64_d, ipos, ineg, dpos, dneg]; try simp (config := { maxSteps := 10000000 }) only [go_sem, seval, sp, h8]))
        exact subH_refl _
      have e : ldV B a n = .t [.c (.u (numF ((B.drop (ofF a)).take n.toNat))), .c (.b true)] := if_pos ⟨hh, by omega⟩
      rw [e]
      rw [hasF_iff] at hh
      obtain ⟨m, rfl⟩ : ∃ m : Nat, n = (m : Int) := ⟨n.toNat, by omega⟩
      rw [Int.toNat_natCast]
      rcases cutF_inv hcut with ⟨rfl, rfl⟩ | ⟨id, off, rfl, g1, g2⟩
      · simp at hh
      have fn := s_fnum_eq (cutF_sub hcut (a := ofF a) (n := m) (by omega)) (show cutF H .nils = some [] from rfl) (by rw [List.length_take]; omega) (by simp)
      rw [List.append_nil] at fn
      have w1 : w64 ((ofF a : Int) + (m : Int)) = ((ofF a + m : Nat) : Int) := by rw [w64_d (by omega) (by omega)]; omega
      have q1 : (0 : Int) ≤ (ofF a : Int) := by omega
      have q2 : (ofF a : Int) < ((ofF a + m : Nat) : Int) := by omega
      have q3 : ((ofF a + m : Nat) : Int) ≤ ((ofF a + m : Nat) : Int) := Int.le_refl _
      have q4 : ((ofF a + m : Nat) : Int) ≤ (B.length : Int) := by omega
      have q5 : ofF a + m - ofF a = m := Nat.add_sub_cancel_left ..
      have q6 : ¬ ((8 : Int) < (m : Int)) := h8
      (try simp (config := { maxSteps := 10000000 }) only [go_sem, seval, sp, ho, w1, q1, q2, q3, q4, q5, q6, fn, Int.toNat_natCast]; repeat (simp (disch := omega) only [w64_d, ipos, ineg, dpos, dneg]; try simp (config := { maxSteps := 10000000 }) only [go_sem, seval, sp, ho, w1, q1, q2, q3, q4, q5, q6, fn, Int.toNat_natCast]))
      exact subH_refl _
    · rw [if_neg hh] at sp
      have e : ldV B a n = .t [.c (.u 0#64), .c (.b false)] := if_neg (fun c => hh c.1)
      rw [e]
      (try simp (config := { maxSteps := 10000000 }) only [go_sem, seval, sp]; repeat (simp (disch := omega) only [w64_d, ipos, ineg, dpos, dneg]; try simp (config := { maxSteps := 10000000 }) only [go_sem, seval, sp]))
      exact subH_refl _
  · simp at h
/-! ### the document's -/
noncomputable def s_frhas (args : List AV) (H : AH) : Option AV :=
  match args with
  | [.g [x], .c (.u a), .c (.i n)] =>
    match cutF H x with
    | some B => if B.length ≤ 262144 ∧ n ≤ 9223372036854775807 then some (.c (.b (hasF B.length a n))) else none
    | none => none
  | _ => none
theorem s_frhas_eq {x : Sc} {B : List Int} {a : BitVec 64} {n : Int} (h : cutF H x = some B) (hl : B.length ≤ 262144) (hn : n ≤ 9223372036854775807) : s_frhas [.g [x], .c (.u a), .c (.i n)] H = some (.c (.b (hasF B.length a n))) := by
  simp only [s_frhas, h]; rw [if_pos ⟨hl, hn⟩]
set_option maxRecDepth 100000 in
set_option maxHeartbeats 2000000 in
theorem ok_frhas : FpOk Tryz.prog 47 (fun args H => (s_frhas args H).map fun v => (v, H)) := by
  refine fq_ok (s := s_frhas) (tab := []) hmix TabOk.nil Tryz.func47 rfl Tryz.results47 Tryz.ntmps47 (by kernel_rfl) (by kernel_rfl) ?_
  intro args H v h hargs hH
  unfold s_frhas at h
  split at h <;> try (simp at h; done)
  rename_i x a n
  split at h <;> try (simp at h; done)
  rename_i B hcut
  split at h <;> try (simp at h; done)
  rename_i hc
  obtain ⟨hB, hn⟩ := hc
  simp only [Option.some.injEq] at h
  subst h
  refine ⟨by simp only [List.length_cons, List.length_nil]; decide, rfl, ?_⟩
  have xl := cutF_len hcut
  have xs := cutF_isS hcut
  have x1 := cutF_one hcut
  by_cases h1 : n < 1
  · have e : hasF B.length a n = false := by rw [← Bool.not_eq_true, hasF_iff]; omega
    rw [e]
    (try simp (config := { maxSteps := 10000000 }) only [go_sem, seval, x1, h1]; repeat (simp (disch := omega) only [w64_d, ipos, ineg, dpos, dneg]; try simp (config := { maxSteps := 10000000 }) only [go_sem, seval, x1, h1]))
    exact subH_app _ _
  have eb : (a < 2147483648#64) = (a.toNat < 2147483648) := by rw [BitVec.lt_def]; rfl
  by_cases h2 : a.toNat < 2147483648
  · have e : hasF B.length a n = false := by rw [← Bool.not_eq_true, hasF_iff]; omega
    rw [e]
    (try simp (config := { maxSteps := 10000000 }) only [go_sem, seval, x1, h1, eb, h2]; repeat (simp (disch := omega) only [w64_d, ipos, ineg, dpos, dneg]; try simp (config := { maxSteps := 10000000 }) only [go_sem, seval, x1, h1, eb, h2]))
    exact subH_app _ _
  have h3 := baseF (a := a) (by omega)
  have e0 : (BitVec.ofInt 64 (B.length : Int)).toNat = B.length := ofI_natF (by omega)
  have e1 : (BitVec.ofInt 64 (B.length : Int) ≤ a - 2147483648#64) = (B.length ≤ ofF a) := by rw [BitVec.le_def, h3, e0]
  by_cases h4 : B.length ≤ ofF a
  · have e : hasF B.length a n = false := by rw [← Bool.not_eq_true, hasF_iff]; omega
    rw [e]
    (try simp (config := { maxSteps := 10000000 }) only [go_sem, seval, x1, xl, xs, as_len_y, h1, eb, h2, e1, h4]; repeat (simp (disch := omega) only [w64_d, ipos, ineg, dpos, dneg]; try simp (config := { maxSteps := 10000000 }) only [go_sem, seval, x1, xl, xs, as_len_y, h1, eb, h2, e1, h4]))
    exact subH_app _ _
  have e3 : (a - 2147483648#64).toInt = (ofF a : Int) := by rw [BitVec.toInt_eq_toNat_cond, h3, if_pos (by omega)]
  have e4 : w64 ((B.length : Int) - (ofF a : Int)) = ((B.length - ofF a : Nat) : Int) := by rw [w64_d (by omega) (by omega)]; omega
  have e : hasF B.length a n = decide (n ≤ ((B.length - ofF a : Nat) : Int)) := by unfold hasF; rw [decide_eq_true (by omega), decide_eq_true (by omega), decide_eq_true (show ofF a < B.length by omega)]; simp
  rw [e]
  (try simp (config := { maxSteps := 10000000 }) only [go_sem, seval, x1, xl, xs, as_len_y, h1, eb, h2, e1, h4, e3, e4]; repeat (simp (disch := omega) only [w64_d, ipos, ineg, dpos, dneg]; try simp (config := { maxSteps := 10000000 }) only [go_sem, seval, x1, xl, xs, as_len_y, h1, eb, h2, e1, h4, e3, e4]))
  exact subH_app _ _
/-! ### a number, byte by byte -/
def stG (b : Int) (v : BitVec 64) : BitVec 64 := v * 256#64 + BitVec.ofInt 64 b
theorem stG_eq {b : Int} (h0 : 0 ≤ b) (h1 : b ≤ 255) (v : BitVec 64) : stG b v = stF b v := by
  unfold stG stF
  have e : v * 256#64 = v <<< 8 := by
    apply BitVec.eq_of_toNat_eq
    rw [BitVec.toNat_mul, BitVec.toNat_shiftLeft, Nat.shiftLeft_eq]; rfl
  rw [e]
  refine BitVec.add_eq_or_of_and_eq_zero _ _ ?_
  apply BitVec.eq_of_getLsbD_eq
  intro i hi
  rw [BitVec.getLsbD_and, BitVec.getLsbD_shiftLeft, BitVec.getLsbD_zero]
  by_cases c : i < 8
  · simp [c]
  · have : (BitVec.ofInt 64 b).getLsbD i = false := by
      rw [BitVec.getLsbD, BitVec.toNat_ofInt]
      apply Nat.testBit_lt_two_pow
      have : 2 ^ 8 ≤ 2 ^ i := Nat.pow_le_pow_right (by decide) (by omega)
      have e8 : (2 : Nat) ^ 8 = 256 := rfl
      omega
    rw [this, Bool.and_false]
theorem numG_eq {L : List Int} (h : ∀ b ∈ L, 0 ≤ b ∧ b ≤ 255) : L.foldr stG 0#64 = numF L := by
  induction L with
  | nil => rfl
  | cons b L ih =>
    have hb := h b (by simp)
    rw [List.foldr_cons, ih fun x hx => h x (by simp [hx]), stG_eq hb.1 hb.2]; rfl
noncomputable def s_frload (args : List AV) (H : AH) : Option AV :=
  match args with
  | [.g [x], .c (.u a), .c (.i n)] =>
    match cutF H x with
    | some B => if B.length ≤ 262144 ∧ n ≤ 9223372036854775807 ∧ (∀ b ∈ B, 0 ≤ b ∧ b ≤ 255) then some (ldV B a n) else none
    | none => none
  | _ => none
theorem s_frload_eq {x : Sc} {B : List Int} {a : BitVec 64} {n : Int} (h : cutF H x = some B) (hl : B.length ≤ 262144) (hn : n ≤ 9223372036854775807) (hb : ∀ b ∈ B, 0 ≤ b ∧ b ≤ 255) : s_frload [.g [x], .c (.u a), .c (.i n)] H = some (ldV B a n) := by
  simp only [s_frload, h]; rw [if_pos ⟨hl, hn, hb⟩]
theorem stG_step {M : List Int} {r i : Nat} {b : Int} (v : BitVec 64) (hlt : r < M.length) (hi : i = M.length - 1 - r) (hb : M[i]? = some b) : (M.drop (M.length - (r + 1))).foldr stG v = (M.drop (M.length - r)).foldr stG v * 256#64 + BitVec.ofInt 64 b := by
  have hi2 : i < M.length := by omega
  rw [show M.length - (r + 1) = i by omega, show M.length - r = i + 1 by omega, List.drop_eq_getElem_cons hi2]
  rw [List.getElem?_eq_getElem hi2] at hb
  simp only [Option.some.injEq] at hb
  rw [List.foldr_cons, hb]; rfl
set_option maxRecDepth 100000 in
set_option maxHeartbeats 2000000 in
theorem ok_frload : FpOk Tryz.prog 20 (fun args H => (s_frload args H).map fun v => (v, H)) := by
  refine fq_ok (s := s_frload) (tab := [(47, .fq s_frhas)]) hmix (TabOk.cons (e := .fq s_frhas) ok_frhas TabOk.nil) Tryz.func20 rfl Tryz.results20 Tryz.ntmps20 (by kernel_rfl) (by kernel_rfl) ?_
  intro args H v h hargs hH
  unfold s_frload at h
  split at h <;> try (simp at h; done)
  rename_i x a n
  split at h <;> try (simp at h; done)
  rename_i B hcut
  split at h <;> try (simp at h; done)
  rename_i hc
  obtain ⟨hB, hn, hb⟩ := hc
  simp only [Option.some.injEq] at h
  subst h
  refine ⟨by simp only [List.length_cons, List.length_nil]; decide, by unfold ldV; split <;> rfl, ?_⟩
  have x1 := cutF_one hcut
  by_cases h8 : 8 < n
  · have e : ldV B a n = .t [.c (.u 0#64), .c (.b false)] := if_neg (by omega)
    rw [e]
    (try simp (config := { maxSteps := 10000000 }) only [go_sem, seval, x1, h8]; repeat (simp (disch := omega) only [w64_d, ipos, ineg, dpos, dneg]; try simp (config := { maxSteps := 10000000 }) only [go_sem, seval, x1, h8]))
    exact subH_app _ _
  have bx : x.bel H.length = true := by
    simp only [List.all_cons, AV.bel, Bool.and_eq_true] at hargs
    simpa using hargs.1
  have hcutX : ∀ X, cutF (H ++ X) x = some B := fun X => by
    rcases cutF_inv hcut with ⟨rfl, rfl⟩ | ⟨id, off, rfl, g1, g2⟩
    · rfl
    · have lid : id < H.length := by simpa [Sc.bel] using bx
      rw [← hcut]
      unfold cutF
      simp only [hg_lt' lid]
  have sh := fun X => s_frhas_eq (hcutX X) hB hn (a := a)
  cases hh : hasF B.length a n with
  | false =>
    have e : ldV B a n = .t [.c (.u 0#64), .c (.b false)] := if_neg (fun c => by rw [hh] at c; simp at c)
    rw [e]
    simp only [hh] at sh
    (try simp (config := { maxSteps := 10000000 }) only [go_sem, seval, x1, h8, sh]; repeat (simp (disch := omega) only [w64_d, ipos, ineg, dpos, dneg]; try simp (config := { maxSteps := 10000000 }) only [go_sem, seval, x1, h8, sh]))
    exact subH_app _ _
  | true =>
    have e : ldV B a n = .t [.c (.u (numF ((B.drop (ofF a)).take n.toNat))), .c (.b true)] := if_pos ⟨hh, by omega⟩
    rw [e]
    simp only [hh] at sh
    rw [hasF_iff] at hh
    obtain ⟨m, rfl⟩ : ∃ m : Nat, n = (m : Int) := ⟨n.toNat, by omega⟩
    rw [Int.toNat_natCast]
    obtain ⟨L, hL⟩ : ∃ L, L = (B.drop (ofF a)).take m := ⟨_, rfl⟩
    have lL : L.length = m := by rw [hL, List.length_take, List.length_drop]; omega
    rw [← hL, ← numG_eq (L := L) fun b hb' => hb b (by rw [hL] at hb'; exact List.mem_of_mem_drop (List.mem_of_mem_take hb'))]
    rcases cutF_inv hcut with ⟨rfl, rfl⟩ | ⟨id, off, rfl, g1, g2⟩
    · simp at hh
    have lid : id < H.length := by simpa [Sc.bel] using bx
    have h3 := baseF (a := a) (by omega)
    have e3 : (a - 2147483648#64).toInt = (ofF a : Int) := by rw [BitVec.toInt_eq_toNat_cond, h3, if_pos (by omega)]
    have w1 : w64 ((m : Int) - 1) = (m : Int) - 1 := w64_d (by omega) (by omega)
    (try simp (config := { maxSteps := 10000000 }) only [go_sem, seval, h8, sh, w1]; repeat (simp (disch := omega) only [w64_d, ipos, ineg, dpos, dneg]; try simp (config := { maxSteps := 10000000 }) only [go_sem, seval, h8, sh, w1]))
    refine arun_for m (fun r => ([(1, .c (.u a)), (3, .c (.p H.length 0 0)), (8, .c (.u ((L.drop (m - r)).foldr stG 0#64))), (9, .c (.i ((m : Int) - 1 - r)))], H ++ [.own [.sl id off (hg H id).row B.length]])) ?_ fun r hr => ?_
    · exact wkF (by simp [Am.get, ← lL])
    · by_cases hlt : r < m
      rotate_left
      · obtain rfl : r = m := by omega
        have e0 : ((r : Int) - 1 - (r : Int)) = -1 := by omega
        have d0 : L.drop (r - r) = L := by rw [Nat.sub_self]; rfl
        (try simp (config := { maxSteps := 10000000 }) only [go_sem, seval, e0, d0]; repeat (simp (disch := omega) only [w64_d, ipos, ineg, dpos, dneg]; try simp (config := { maxSteps := 10000000 }) only [go_sem, seval, e0, d0]))
        exact subH_app _ _
      obtain ⟨i, hi⟩ : ∃ i, i = m - 1 - r := ⟨_, rfl⟩
      have e0 : ((m : Int) - 1 - (r : Int)) = (i : Int) := by omega
      have e1 : w64 ((i : Int) - 1) = (i : Int) - 1 := w64_d (by omega) (by omega)
      have k0 : (0 : Int) ≤ (i : Int) := by omega
      obtain ⟨b, hbi⟩ : ∃ b, L[i]? = some b := ⟨_, List.getElem?_eq_getElem (by omega)⟩
      have hbB : B[ofF a + i]? = some b := by
        rw [hL, List.getElem?_take_of_lt (by omega), List.getElem?_drop] at hbi
        exact hbi
      have w2 : w64 ((ofF a : Int) + (i : Int)) = ((ofF a + i : Nat) : Int) := by rw [w64_d (by omega) (by omega)]; omega
      have k1 : (0 : Int) ≤ ((ofF a + i : Nat) : Int) := by omega
      have k2 : ((ofF a + i : Nat) : Int) < (B.length : Int) := by omega
      have b1 : (off + (ofF a + i) + 1 ≤ (hg H id).cells.length) = True := eq_true (by omega)
      have b2 : (hg H id).cells.getD (off + (ofF a + i)) .any = .k .u8 b := by
        have := congrArg (fun l => l.getD (ofF a + i) .any) g2
        simp only [List.getD_eq_getElem?_getD, List.getElem?_take, List.getElem?_drop] at this ⊢
        rw [if_pos (by omega)] at this
        rw [this]
        have g := fm1 (f := e8F) (g := Sc.k .u8) (fun _ => rfl) hbB
        simpa [List.getD_eq_getElem?_getD] using g
      have gX : ∀ X, hg (H ++ X) id = hg H id := fun X => hg_lt' lid
      (try simp (config := { maxSteps := 10000000 }) only [go_sem, seval, e0, e1, k0, e3, w2, k1, k2, b1, b2, gX, Int.toNat_natCast]; repeat (simp (disch := omega) only [w64_d, ipos, ineg, dpos, dneg]; try simp (config := { maxSteps := 10000000 }) only [go_sem, seval, e0, e1, k0, e3, w2, k1, k2, b1, b2, gX, Int.toNat_natCast]))
      have st := stG_step 0#64 (M := L) (by omega) (by omega) hbi (r := r)
      rw [lL] at st
      have e4 : (i : Int) - 1 = (m : Int) - 1 - ((r + 1 : Nat) : Int) := by omega
      rw [← st, e4]
      exact ⟨r + 1, by omega, by omega, wkF (by simp [Am.get])⟩
end
end
end Go.Proofs.YtcbhelkafelofaaGreat
