/- Layer 17: a port: contracts. -/
import Derived.Test.YtfddaaplnnlfoaaBit
namespace Go.Proofs.Ytfddaaplnnlfoaa
open Go.Am
set_option linter.unusedSimpArgs false
set_option linter.unusedVariables false
noncomputable section

/-- a port's cells -/
structure Po where
  e : Int
  l : Int
  m : Int
  s : Int
  dl : Int
  dm : Int
  ff : Bool
  lo : Bool
  em : Bool
  x : Sc
  y : Sc
def poC (p : Po) : List Sc := [.k .u8 p.e, .k .u8 p.l, .k .u8 p.m, .k .u8 p.s, .k .u8 p.dl, .k .u8 p.dm, .b p.ff, .b p.lo, .b p.em, p.x, p.y]
def poD : AObj → Option Po
  | .own [.k .u8 e, .k .u8 l, .k .u8 m, .k .u8 s, .k .u8 dl, .k .u8 dm, .b ff, .b lo, .b em, x, y] => some ⟨e, l, m, s, dl, dm, ff, lo, em, x, y⟩
  | _ => none
theorem poD_inv {o : AObj} {p : Po} (h : poD o = some p) : o = .own [.k .u8 p.e, .k .u8 p.l, .k .u8 p.m, .k .u8 p.s, .k .u8 p.dl, .k .u8 p.dm, .b p.ff, .b p.lo, .b p.em, p.x, p.y] := by
  unfold poD at h
  split at h
  · simp only [Option.some.injEq] at h; subst h; rfl
  · simp at h
theorem poD_of (p : Po) : poD (.own (poC p)) = some p := rfl
/-- how many there are -/
def lenS : Sc → Option Nat
  | .nils => some 0
  | .sl _ _ _ n => some n
  | _ => none
theorem lenS_inv {s : Sc} {n : Nat} (h : lenS s = some n) : (s = .nils ∧ n = 0) ∨ ∃ i o v, s = .sl i o v n := by
  unfold lenS at h
  split at h
  · simp at h; exact .inl ⟨rfl, h.symm⟩
  · simp at h; exact .inr ⟨_, _, _, by rw [h]⟩
  · simp at h
def an8 (a b : Int) : Int := IntKind.u8.wrap ((BitVec.ofInt 8 a &&& BitVec.ofInt 8 b).toNat)
def or8 (a b : Int) : Int := IntKind.u8.wrap ((BitVec.ofInt 8 a ||| BitVec.ofInt 8 b).toNat)
theorem a8_and {P : Program} {t : Nat} {x y : Int} : abin P .and t (.c (.k .u8 x)) (.c (.k .u8 y)) = some (.c (.k .u8 (an8 x y))) := ab_k_and
theorem a8_or {P : Program} {t : Nat} {x y : Int} : abin P .or t (.c (.k .u8 x)) (.c (.k .u8 y)) = some (.c (.k .u8 (or8 x y))) := ab_k_or
attribute [go_sem 1100] a8_and a8_or
def causeT (p : Po) (n : Nat) : Int :=
  if an8 p.e 4 ≠ 0 ∧ p.lo = true then 6 else if an8 p.e 1 ≠ 0 ∧ 0 < n then 4 else if an8 p.e 2 ≠ 0 ∧ p.em = true then 2 else 1
def s_ucause (args : List AV) (H : AH) : Option AV :=
  match args with
  | [.c (.p id 0 0)] =>
    match poD (hg H id) with
    | some p =>
      match lenS p.x with
      | some n => some (.c (.k .u8 (causeT p n)))
      | none => none
    | none => none
  | _ => none
theorem s_ucause_eq {id : Nat} {H : AH} {p : Po} {n : Nat} (h : poD (hg H id) = some p) (hn : lenS p.x = some n) : s_ucause [.c (.p id 0 0)] H = some (.c (.k .u8 (causeT p n))) := by
  simp only [s_ucause, h, hn]
set_option maxRecDepth 100000 in
set_option maxHeartbeats 2000000 in
theorem ok_ucause : FpOk Try.prog 70 (fun args H => (s_ucause args H).map fun v => (v, H)) := by
  refine fq_ok (s := s_ucause) (tab := []) hmix TabOk.nil Try.func70 rfl Try.results70 Try.ntmps70 (by kernel_rfl) (by kernel_rfl) ?_
  intro args H v h hargs hH
  unfold s_ucause at h
  split at h
  · rename_i id
    split at h
    · rename_i p hp
      split at h
      · rename_i n hn
        have hm := poD_inv hp
        simp only [Option.some.injEq] at h
        subst h
        refine ⟨by simp only [List.length_cons, List.length_nil]; decide, rfl, ?_⟩
        obtain ⟨e, l, m, s, dl, dm, ff, lo, em, x, y⟩ := p
        simp only at hm hn ⊢
        unfold causeT
        by_cases h4 : an8 e 4 = 0 <;> by_cases h1 : an8 e 1 = 0 <;> by_cases h2 : an8 e 2 = 0 <;> cases lo <;> cases em
        all_goals rcases lenS_inv hn with ⟨rfl, rfl⟩ | ⟨i, o, v, rfl⟩
        rotate_left
        all_goals first | (by_cases hz : 0 < n <;> (try simp (config := { maxSteps := 10000000 }) only [go_sem, seval, hm, h4, h1, h2, hz]; repeat (simp (disch := omega) only [w64_d, ipos, ineg, dpos, dneg]; try simp (config := { maxSteps := 10000000 }) only [go_sem, seval, hm, h4, h1, h2, hz]))) | (try simp (config := { maxSteps := 10000000 }) only [go_sem, seval, hm, h4, h1, h2]; repeat (simp (disch := omega) only [w64_d, ipos, ineg, dpos, dneg]; try simp (config := { maxSteps := 10000000 }) only [go_sem, seval, hm, h4, h1, h2]))
        all_goals first | exact subH_refl _ | exact ⟨by simp, subH_refl _⟩
      · simp at h
    · simp at h
  · simp at h
def roomT (p : Po) : Int := if p.ff = true then 16 else 1
def s_uroom (args : List AV) (H : AH) : Option AV :=
  match args with
  | [.c (.p id 0 0)] =>
    match poD (hg H id) with
    | some p => some (.c (.i (roomT p)))
    | none => none
  | _ => none
theorem s_uroom_eq {id : Nat} {H : AH} {p : Po} (h : poD (hg H id) = some p) : s_uroom [.c (.p id 0 0)] H = some (.c (.i (roomT p))) := by
  simp only [s_uroom, h]
set_option maxRecDepth 100000 in
set_option maxHeartbeats 2000000 in
theorem ok_uroom : FpOk Try.prog 91 (fun args H => (s_uroom args H).map fun v => (v, H)) := by
  refine fq_ok (s := s_uroom) (tab := []) hmix TabOk.nil Try.func91 rfl Try.results91 Try.ntmps91 (by kernel_rfl) (by kernel_rfl) ?_
  intro args H v h hargs hH
  unfold s_uroom at h
  split at h
  · rename_i id
    split at h
    · rename_i p hp
      have hm := poD_inv hp
      simp only [Option.some.injEq] at h
      subst h
      refine ⟨by simp only [List.length_cons, List.length_nil]; decide, rfl, ?_⟩
      obtain ⟨e, l, m, s, dl, dm, ff, lo, em, x, y⟩ := p
      simp only at hm ⊢
      cases ff
      all_goals (try simp (config := { maxSteps := 10000000 }) only [go_sem, seval, hm, roomT]; repeat (simp (disch := omega) only [w64_d, ipos, ineg, dpos, dneg]; try simp (config := { maxSteps := 10000000 }) only [go_sem, seval, hm, roomT]))
      all_goals first | exact subH_refl _ | exact ⟨rfl, subH_refl _⟩
    · simp at h
  · simp at h
end
end Go.Proofs.Ytfddaaplnnlfoaa
