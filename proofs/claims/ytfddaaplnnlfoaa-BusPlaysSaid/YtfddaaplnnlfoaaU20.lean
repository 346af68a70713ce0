/- Layer 17: a deed is done to both: contract. -/
import Derived.Test.YtfddaaplnnlfoaaU19
namespace Go.Proofs.Ytfddaaplnnlfoaa
open Go.Am
set_option linter.unusedSimpArgs false
set_option linter.unusedVariables false
noncomputable section

/-- both ports stand, apart from each other -/
structure DoOk (H : AH) (id : Nat) (t : Pt) (x y u v : Sc) : Prop where
  pi : PI H id t x y
  rp : RpOk H t u v
  bu : u.bel H.length = true
  bv : v.bel H.length = true
  su : ∀ i, sid u = some i → i ≠ id ∧ sid x ≠ some i ∧ sid y ≠ some i
  sv : ∀ i, sid v = some i → i ≠ id ∧ sid x ≠ some i ∧ sid y ≠ some i
def zr : List Sc := rpC pt0 .nils .nils
def doF (id : Nat) (c : List Sc) (kd : Int) (off : BitVec 64) (b : Int) (H : AH) : Option (AV × AH) :=
  if kd = 0 then
    match s_uread [.c (.p id 0 0), .c (.u off)] (H ++ [.own c, .own [.i kd, .u off, .k .u8 b], .own zr]) with
    | some (.t [.c (.k .u8 v), .c (.b q)], K) =>
      match s_rread [.g c, .c (.u off)] K with
      | some (.t [.g c', .c (.i v'), .c (.b q')], K2) => some (.t [.g c', .c (.b (decide (v = v') && (q == q')))], (K2 ++ [AObj.own c']).set (H.length + 2) (.own c'))
      | _ => none
    | _ => none
  else if kd = 1 then
    match s_rwrite [.g c, .c (.u off), .c (.i b)] (H ++ [.own c, .own [.i kd, .u off, .k .u8 b], .own zr]) with
    | some (.t [.g c', .c (.b q')], K) =>
      match s_uwrite [.c (.p id 0 0), .c (.u off), .c (.k .u8 b)] (K ++ [AObj.own c']) with
      | some (.c (.b q), K2) => some (.t [.g c', .c (.b (q == q'))], K2.set (H.length + 2) (.own c'))
      | _ => none
    | _ => none
  else
    match s_rinput [.g c, .c (.i b)] (H ++ [.own c, .own [.i kd, .u off, .k .u8 b], .own zr]) with
    | some (.t [.g c', .c (.b q')], K) =>
      match s_uinput [.c (.p id 0 0), .c (.k .u8 b)] (K ++ [AObj.own c']) with
      | some (.c (.b q), K2) => some (.t [.g c', .c (.b (q == q'))], K2.set (H.length + 2) (.own c'))
      | _ => none
    | _ => none
open Classical in
def s_do (args : List AV) (H : AH) : Option (AV × AH) :=
  match args with
  | [.c (.p id 0 0), .g c, .g [.i kd, .u off, .k .u8 b]] =>
    if (∃ t x y u v, c = rpC t u v ∧ DoOk H id t x y u v ∧ t.A.length ≤ 1000000 ∧ t.B.length ≤ 1000000 ∧ by8 b) then doF id c kd off b H else none
  | _ => none
theorem len_do (args : List AV) (H : AH) (v : AV) (H1 : AH) (h : s_do args H = some (v, H1)) : H.length ≤ H1.length := by
  unfold s_do at h
  split at h
  · split at h
    · unfold doF at h
      repeat' split at h
      all_goals simp at h
      all_goals rw [← h.2]
      · have a := len_uread _ _ _ _ ‹s_uread _ _ = some (_, _)›
        have b := len_rread _ _ _ _ ‹s_rread _ _ = some (_, _)›
        simp at a b ⊢; omega
      · have a := len_rwrite _ _ _ _ ‹s_rwrite _ _ = some (_, _)›
        have b := len_uwrite _ _ _ _ ‹s_uwrite _ _ = some (_, _)›
        simp at a b ⊢; omega
      · have a := len_rinput _ _ _ _ ‹s_rinput _ _ = some (_, _)›
        have b := len_uinput _ _ _ _ ‹s_uinput _ _ = some (_, _)›
        simp at a b ⊢; omega
    · simp at h
  · simp at h
set_option maxHeartbeats 8000000 in
end
end Go.Proofs.Ytfddaaplnnlfoaa
