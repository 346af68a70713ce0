/- Layer 32: bytes as a number: contracts. -/
import Derived.Test.YtcbhelkafelofaaGreatSpl
namespace Go.Proofs.YtcbhelkafelofaaGreat
open Go.Am
set_option linter.unusedSimpArgs false
set_option linter.unusedVariables false
noncomputable section

/-! ### bytes that are cut out of a row -/
/-- bytes as cells -/
def e8F (x : Int) : List Sc := [.k .u8 x]
theorem e8F_l (x : Int) : (e8F x).length = 1 := rfl
def d8F : List Sc → Option Int
  | [.k .u8 x] => some x
  | _ => none
theorem d8F_e (x : Int) : d8F (e8F x) = some x := rfl
theorem d8F_d (cs : List Sc) (x : Int) (h : d8F cs = some x) : cs = e8F x := by unfold d8F at h; split at h <;> simp_all [e8F]
def byF : List Sc → Option (List Int)
  | [] => some []
  | .k .u8 n :: r => (byF r).map (n :: ·)
  | _ => none
theorem byF_inv {cs : List Sc} {L : List Int} (h : byF cs = some L) : cs = L.flatMap e8F := by
  induction cs generalizing L with
  | nil => simp [byF] at h; subst h; rfl
  | cons a r ih =>
    unfold byF at h
    split at h
    · simp_all
    · rename_i n r' heq
      simp only [List.cons.injEq] at heq
      obtain ⟨rfl, rfl⟩ := heq
      rw [Option.map_eq_some_iff] at h
      obtain ⟨l', h5, rfl⟩ := h
      rw [ih h5]; rfl
    · simp at h
theorem byF_of (L : List Int) : byF (L.flatMap e8F) = some L := by
  induction L with
  | nil => rfl
  | cons a r ih => rw [List.flatMap_cons]; simp [e8F, byF, ih]
/-- a slice of bytes, cut out of a row or not -/
def cutF (H : AH) : Sc → Option (List Int)
  | .nils => some []
  | .sl id off v n => if v = (hg H id).row ∧ off + n ≤ (hg H id).cells.length then byF (((hg H id).cells.drop off).take n) else none
  | _ => none
theorem cutF_inv {H : AH} {x : Sc} {L : List Int} (h : cutF H x = some L) : (x = .nils ∧ L = []) ∨ ∃ id off, x = .sl id off (hg H id).row L.length ∧ off + L.length ≤ (hg H id).cells.length ∧ ((hg H id).cells.drop off).take L.length = L.flatMap e8F := by
  unfold cutF at h
  split at h
  · simp only [Option.some.injEq] at h; exact .inl ⟨rfl, h.symm⟩
  · rename_i id off v n
    split at h
    · rename_i hc
      obtain ⟨rfl, hc⟩ := hc
      have e := byF_inv h
      have l : n = L.length := by
        have := congrArg List.length e
        rw [fm_len e8F_l, List.length_take, List.length_drop] at this
        omega
      subst l
      exact .inr ⟨id, off, rfl, hc, e⟩
    · simp at h
  · simp at h
/-- the number that bytes are -/
def stF (b : Int) (v : BitVec 64) : BitVec 64 := (v <<< 8) ||| (BitVec.ofInt 64 b)
def numF (L : List Int) : BitVec 64 := L.foldr stF 0#64
theorem numF_nil : numF [] = 0#64 := rfl
theorem numF_app (L M : List Int) : numF (L ++ M) = L.foldr stF (numF M) := by unfold numF; rw [List.foldr_append]
def s_fnum (args : List AV) (H : AH) : Option AV :=
  match args with
  | [.c x, .c y] =>
    match cutF H x, cutF H y with
    | some L, some M => if L.length ≤ 1000000 ∧ M.length ≤ 1000000 then some (.c (.u (numF (L ++ M)))) else none
    | _, _ => none
  | _ => none
theorem s_fnum_eq {x y : Sc} {H : AH} {L M : List Int} (h1 : cutF H x = some L) (h2 : cutF H y = some M) (h3 : L.length ≤ 1000000) (h4 : M.length ≤ 1000000) : s_fnum [.c x, .c y] H = some (.c (.u (numF (L ++ M)))) := by
  simp only [s_fnum, h1, h2]; rw [if_pos ⟨h3, h4⟩]
end
end Go.Proofs.YtcbhelkafelofaaGreat
