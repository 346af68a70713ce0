/- Layer 17: a port that is read and written: contracts. -/
import Derived.Test.YtfddaaplnnlfoaaU3
namespace Go.Proofs.Ytfddaaplnnlfoaa
open Go.Am
set_option linter.unusedSimpArgs false
set_option linter.unusedVariables false
noncomputable section

theorem fin_same {n : Nat} {v : AV} {H : AH} : ∃ v', some v = some v' ∧ Wk n [(0, v')] H ([(0, v)], H) :=
  ⟨_, rfl, fun ρ _ _ h1 h2 => ⟨ρ, h1, h2, fun i _ hi hL _ => ⟨i, hi, hL⟩, fun _ _ => rfl⟩⟩
theorem off8 (off : BitVec 64) : 7#64 < off ∨ off = 0#64 ∨ off = 1#64 ∨ off = 2#64 ∨ off = 3#64 ∨ off = 4#64 ∨ off = 5#64 ∨ off = 6#64 ∨ off = 7#64 := by
  have k : ∀ n : Nat, n < 18446744073709551616 → off.toNat = n → off = BitVec.ofNat 64 n := fun n hn h => by apply BitVec.eq_of_toNat_eq; rw [BitVec.toNat_ofNat]; omega
  rcases Nat.lt_or_ge 7 off.toNat with h | h
  · left; exact h
  · right
    have : off.toNat = 0 ∨ off.toNat = 1 ∨ off.toNat = 2 ∨ off.toNat = 3 ∨ off.toNat = 4 ∨ off.toNat = 5 ∨ off.toNat = 6 ∨ off.toNat = 7 := by omega
    rcases this with h | h | h | h | h | h | h | h
    all_goals have := k _ (by decide) h
    all_goals simp [this]
/-- what is told, and that it is -/
def okB (r : Option (AV × AH)) : Option (AV × AH) :=
  match r with
  | some (.c s, H1) => some (.t [.c s, .c (.b true)], H1)
  | _ => none
theorem okB_inv {r : Option (AV × AH)} {v : AV} {H1 : AH} (h : okB r = some (v, H1)) : ∃ s, r = some (.c s, H1) ∧ v = .t [.c s, .c (.b true)] := by
  unfold okB at h
  split at h
  · simp only [Option.some.injEq, Prod.mk.injEq] at h
    obtain ⟨rfl, rfl⟩ := h
    exact ⟨_, rfl, rfl⟩
  · simp at h
theorem okB_len {f : List AV → AH → Option (AV × AH)} (hf : ∀ a H v H1, f a H = some (v, H1) → H.length ≤ H1.length) {a : List AV} {H H1 : AH} {v : AV} (h : okB (f a H) = some (v, H1)) : H.length ≤ H1.length := by
  obtain ⟨s, h1, _⟩ := okB_inv h
  exact hf _ _ _ _ h1
def s_uread (args : List AV) (H : AH) : Option (AV × AH) :=
  match args with
  | [.c .nilp, .c (.u _)] => some (.t [.c (.k .u8 0), .c (.b false)], H)
  | [.c (.p id 0 0), .c (.u off)] =>
    if 7#64 < off then some (.t [.c (.k .u8 0), .c (.b false)], H) else
    match poD (hg H id) with
    | none => none
    | some p =>
      if off = 0#64 then (if an8 p.l 128 = 0 then okB (s_utake [.c (.p id 0 0)] H) else some (.t [.c (.k .u8 p.dl), .c (.b true)], H))
      else if off = 1#64 then some (.t [.c (.k .u8 (if an8 p.l 128 = 0 then p.e else p.dm)), .c (.b true)], H)
      else if off = 2#64 then okB (s_utold [.c (.p id 0 0)] H)
      else if off = 3#64 then some (.t [.c (.k .u8 p.l), .c (.b true)], H)
      else if off = 4#64 then some (.t [.c (.k .u8 p.m), .c (.b true)], H)
      else if off = 5#64 then okB (s_ustate [.c (.p id 0 0)] H)
      else if off = 6#64 then some (.t [.c (.k .u8 (modemT p.m)), .c (.b true)], H)
      else some (.t [.c (.k .u8 p.s), .c (.b true)], H)
  | _ => none
theorem len_uread (args : List AV) (H : AH) (v : AV) (H1 : AH) (h : s_uread args H = some (v, H1)) : H.length ≤ H1.length := by
  unfold s_uread at h
  repeat' split at h
  all_goals first
    | exact okB_len len_utake h
    | exact okB_len len_utold h
    | exact okB_len len_ustate h
    | (simp at h; done)
    | (simp at h; rw [← h.2]; exact Nat.le_refl _)
set_option maxRecDepth 100000 in
set_option maxHeartbeats 2000000 in
theorem ok_uread : FpOk Try.prog 60 s_uread := by
  refine fp_ok (s := s_uread) (tab := [(85, .fp s_utake), (86, .fp s_utold), (87, .fp s_ustate), (88, .fq s_umodem)]) hmix (TabOk.cons (e := .fp s_utake) ok_utake (TabOk.cons (e := .fp s_utold) ok_utold (TabOk.cons (e := .fp s_ustate) ok_ustate (TabOk.cons (e := .fq s_umodem) ok_umodem TabOk.nil)))) Try.func60 rfl Try.results60 Try.ntmps60 (by kernel_rfl) (by kernel_rfl) len_uread ?_
  intro args H v H1 h hargs hH
  unfold s_uread at h
  split at h
  · rename_i off
    simp only [Option.some.injEq, Prod.mk.injEq] at h
    obtain ⟨rfl, rfl⟩ := h
    refine ⟨by simp only [List.length_cons, List.length_nil]; decide, ?_⟩
    (try simp (config := { maxSteps := 10000000 }) only [go_sem, seval]; repeat (simp (disch := omega) only [w64_d, ipos, ineg, dpos, dneg]; try simp (config := { maxSteps := 10000000 }) only [go_sem, seval]))
    exact fin_same
  · rename_i id off
    refine ⟨by simp only [List.length_cons, List.length_nil]; decide, ?_⟩
    rcases off8 off with h7 | h7
    · rw [if_pos h7] at h
      simp only [Option.some.injEq, Prod.mk.injEq] at h
      obtain ⟨rfl, rfl⟩ := h
      (try simp (config := { maxSteps := 10000000 }) only [go_sem, seval, h7]; repeat (simp (disch := omega) only [w64_d, ipos, ineg, dpos, dneg]; try simp (config := { maxSteps := 10000000 }) only [go_sem, seval, h7]))
      exact fin_same
    · have n7 : ¬ 7#64 < off := by rcases h7 with rfl | rfl | rfl | rfl | rfl | rfl | rfl | rfl <;> decide
      rw [if_neg n7] at h
      split at h
      · simp at h
      · rename_i p hp
        have hm := poD_inv hp
        have lid : id < H.length := hg_lt (by rw [hm]; rfl)
        have mo := s_umodem_eq hp
        obtain ⟨e, l, m, s, dl, dm, ff, lo, em, x, y⟩ := p
        simp only at hm mo h
        by_cases hl : an8 l 128 = 0
        all_goals rcases h7 with rfl | rfl | rfl | rfl | rfl | rfl | rfl | rfl
        all_goals simp [hl] at h
        all_goals first
          | (obtain ⟨rfl, rfl⟩ := h; (try simp (config := { maxSteps := 10000000 }) only [go_sem, seval, hm, mo, hl]; repeat (simp (disch := omega) only [w64_d, ipos, ineg, dpos, dneg]; try simp (config := { maxSteps := 10000000 }) only [go_sem, seval, hm, mo, hl])); first | exact fin_same | skip)
          | (obtain ⟨v', h1, rfl⟩ := okB_inv h; (try simp (config := { maxSteps := 10000000 }) only [go_sem, seval, hm, mo, hl, h1]; repeat (simp (disch := omega) only [w64_d, ipos, ineg, dpos, dneg]; try simp (config := { maxSteps := 10000000 }) only [go_sem, seval, hm, mo, hl, h1])); first | exact fin_same | skip)
  · simp at h
end
end Go.Proofs.Ytfddaaplnnlfoaa
