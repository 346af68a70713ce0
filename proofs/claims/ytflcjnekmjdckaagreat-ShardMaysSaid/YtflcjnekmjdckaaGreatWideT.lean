/- Contracts of layer 2's products, the reference's too. -/
import Derived.Test.YtflcjnekmjdckaaGreatWideS
namespace Go.Proofs.YtflcjnekmjdckaaGreat
open Go.Am
set_option linter.unusedSimpArgs false
set_option linter.unusedVariables false
noncomputable section

def s_digits (args : List AV) (H : AH) : Option (AV × AH) :=
  match args with
  | [.c (.u w)] => some (.c (.sl H.length 0 4 4), H ++ [.vec 1 [.u (w % 65536#64), .u (w / 65536#64 % 65536#64), .u (w / 4294967296#64 % 65536#64), .u (w / 281474976710656#64)]])
  | _ => none
theorem s_digits_eq {w : BitVec 64} {H : AH} : s_digits [.c (.u w)] H = some (.c (.sl H.length 0 4 4), H ++ [.vec 1 [.u (w % 65536#64), .u (w / 65536#64 % 65536#64), .u (w / 4294967296#64 % 65536#64), .u (w / 281474976710656#64)]]) := rfl
theorem len_digits (args : List AV) (H : AH) (v : AV) (H1 : AH) (h : s_digits args H = some (v, H1)) : H.length ≤ H1.length := by
  unfold s_digits at h
  split at h <;> simp at h
  rw [← h.2]; simp

/-- a word out of cells -/
def uOf : Sc → BitVec 64
  | .u x => x
  | _ => 0#64
def isU : Sc → Bool
  | .u _ => true
  | _ => false
def wv (l : List Sc) (a : Nat) : Nat → BitVec 64
  | 0 => 0#64
  | k + 1 => wv l a k * 65536#64 + uOf (l.getD (a + (3 - k)) .any)
def s_word (args : List AV) (H : AH) : Option AV :=
  match args with
  | [.c (.sl id 0 v n), .c (.i a)] => if 0 ≤ a ∧ a ≤ 1000 ∧ a + 4 ≤ n ∧ n ≤ (hg H id).cells.length ∧ v = (hg H id).row ∧ (hg H id).cells.all isU = true then some (.c (.u (wv (hg H id).cells a.toNat 4))) else none
  | _ => none
theorem s_word_eq {id v n : Nat} {a : Int} {H : AH} : s_word [.c (.sl id 0 v n), .c (.i a)] H = if 0 ≤ a ∧ a ≤ 1000 ∧ a + 4 ≤ n ∧ n ≤ (hg H id).cells.length ∧ v = (hg H id).row ∧ (hg H id).cells.all isU = true then some (.c (.u (wv (hg H id).cells a.toNat 4))) else none := rfl
theorem getU {l : List Sc} {i : Nat} (h : l.all isU = true) (hi : i < l.length) : l.getD i .any = .u (uOf (l.getD i .any)) := by
  have e : l.getD i .any = l[i] := by simp [List.getD_eq_getElem?_getD, hi]
  rw [e]
  have := List.all_eq_true.1 h l[i] (List.getElem_mem hi)
  cases hl : l[i] <;> rw [hl] at this <;> simp [isU] at this; rfl

end
end Go.Proofs.YtflcjnekmjdckaaGreat
