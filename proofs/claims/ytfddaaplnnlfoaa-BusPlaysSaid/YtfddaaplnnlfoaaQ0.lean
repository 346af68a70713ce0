/- What stands at a place of an own object. -/
import Derived.Test.YtfddaaplnnlfoaaSpl
namespace Go.Proofs.Ytfddaaplnnlfoaa
open Go.Am
set_option linter.unusedSimpArgs false
set_option linter.unusedVariables false
noncomputable section

section
variable {α : Type}
def AtQ (enc : α → List Sc) (ok : α → Prop) (H : AH) (x : Sc) (a : α) : Prop := ∃ id A B, x = .p id A.length 0 ∧ hg H id = .own (A ++ (enc a ++ B)) ∧ ok a
noncomputable def atQ (enc : α → List Sc) (ok : α → Prop) (H : AH) (x : Sc) : Option α := by
  classical
  exact if h : ∃ a, AtQ enc ok H x a then some h.choose else none
theorem atQ_inv {enc : α → List Sc} {ok : α → Prop} {H : AH} {x : Sc} {a : α} (h : atQ enc ok H x = some a) : AtQ enc ok H x a := by
  unfold atQ at h
  split at h
  · rename_i h1
    simp only [Option.some.injEq] at h
    rw [← h]
    exact h1.choose_spec
  · simp at h
structure Enc (enc : α → List Sc) (ok : α → Prop) (n : Nat) : Prop where
  l : ∀ a, ok a → (enc a).length = n
  i : ∀ a b, ok a → ok b → enc a = enc b → a = b
theorem atQ_of {enc : α → List Sc} {ok : α → Prop} {n : Nat} (e : Enc enc ok n) {H : AH} {x : Sc} {a : α} (h : AtQ enc ok H x a) : atQ enc ok H x = some a := by
  have h1 : ∃ a, AtQ enc ok H x a := ⟨a, h⟩
  unfold atQ
  rw [dif_pos h1]
  obtain ⟨id, A, B, hx, ho, ha⟩ := h
  obtain ⟨id', A', B', hx', ho', ha'⟩ := h1.choose_spec
  rw [hx] at hx'
  simp only [Sc.p.injEq, and_true] at hx'
  obtain ⟨rfl, hl⟩ := hx'
  rw [ho] at ho'
  simp only [AObj.own.injEq] at ho'
  obtain ⟨_, h2⟩ := List.append_inj ho' hl
  obtain ⟨h3, _⟩ := List.append_inj h2 (by rw [e.l _ ha, e.l _ ha'])
  rw [e.i _ _ ha ha' h3]
def setAt (enc : α → List Sc) (n : Nat) (H : AH) (x : Sc) (a : α) : AH :=
  match x with
  | .p id off _ => H.set id (.own ((hg H id).cells.take off ++ (enc a ++ (hg H id).cells.drop (off + n))))
  | _ => H
theorem setAt_len {enc : α → List Sc} {n : Nat} {H : AH} {x : Sc} {a : α} : (setAt enc n H x a).length = H.length := by unfold setAt; split <;> simp
theorem setAt_of {enc : α → List Sc} {n : Nat} {H : AH} {id : Nat} {A B : List Sc} {a b : α} (ho : hg H id = .own (A ++ (enc a ++ B))) (hl : (enc a).length = n) : setAt enc n H (.p id A.length 0) b = H.set id (.own (A ++ (enc b ++ B))) := by
  simp only [setAt, ho, AObj.cells]
  rw [List.take_left, ← List.append_assoc A (enc a) B, List.drop_left' (by rw [List.length_append, hl])]
theorem setAt_bel {enc : α → List Sc} {n : Nat} {H : AH} {id : Nat} {A B : List Sc} {a b : α} (ho : hg H id = .own (A ++ (enc a ++ B))) (hl : (enc a).length = n) (hb : ∀ m, (enc b).all (Sc.bel m) = true) (hH : belH H = true) : belH (setAt enc n H (.p id A.length 0) b) = true := by
  rw [setAt_of ho hl]
  refine bel_set' hH ?_
  have lid : id < H.length := hg_lt (by rw [ho]; rfl)
  have := bel_at hH id
  rw [ho] at this
  simp only [AObj.cells, AObj.scs, List.all_append, Bool.and_eq_true] at this ⊢
  exact ⟨this.1, hb _, this.2.2⟩
end
/-! ### words of 32 bits -/
def w32 (w : BitVec 32) : Sc := .k .u32 (w.toNat : Int)
theorem ofInt_w32 (w : BitVec 32) : BitVec.ofInt 32 (w.toNat : Int) = w := by
  apply BitVec.eq_of_toNat_eq
  rw [BitVec.toNat_ofInt]
  have := w.isLt
  omega
theorem wrap_w32 (w : BitVec 32) : IntKind.u32.wrap ((w.toNat : Nat) : Int) = (w.toNat : Int) := by
  have := w.isLt
  simp [IntKind.wrap, IntKind.bits, IntKind.signed]
  omega
section
variable {P : Program} {t : Nat} {x y : Int}
theorem c32_and : abin P .and t (.c (.k .u32 x)) (.c (.k .u32 y)) = some (.c (.k .u32 ((BitVec.ofInt 32 x &&& BitVec.ofInt 32 y).toNat : Int))) := ab_k_and.trans (congrArg (fun z => some (AV.c (Sc.k .u32 z))) (wrap_w32 (BitVec.ofInt 32 x &&& BitVec.ofInt 32 y)))
theorem c32_or : abin P .or t (.c (.k .u32 x)) (.c (.k .u32 y)) = some (.c (.k .u32 ((BitVec.ofInt 32 x ||| BitVec.ofInt 32 y).toNat : Int))) := ab_k_or.trans (congrArg (fun z => some (AV.c (Sc.k .u32 z))) (wrap_w32 (BitVec.ofInt 32 x ||| BitVec.ofInt 32 y)))
theorem c32_an : abin P .andNot t (.c (.k .u32 x)) (.c (.k .u32 y)) = some (.c (.k .u32 ((BitVec.ofInt 32 x &&& ~~~(BitVec.ofInt 32 y)).toNat : Int))) := ab_k_andNot.trans (congrArg (fun z => some (AV.c (Sc.k .u32 z))) (wrap_w32 (BitVec.ofInt 32 x &&& ~~~(BitVec.ofInt 32 y))))
end
theorem get_cases' (fr : Fr) (s : Nat) : Am.get fr s = .c .any ∨ ∃ p ∈ fr, p.1 = s ∧ Am.get fr s = p.2 := by
  induction fr with
  | nil => exact .inl rfl
  | cons a r ih =>
    obtain ⟨d, v⟩ := a
    by_cases h : d = s
    · exact .inr ⟨(d, v), by simp, h, by simp [Am.get, h]⟩
    · have e : Am.get ((d, v) :: r) s = Am.get r s := by simp [Am.get, h]
      rw [e]
      rcases ih with h1 | ⟨p, h1, h2, h3⟩
      · exact .inl h1
      · exact .inr ⟨p, by simp [h1], h2, h3⟩
theorem Wk.fq {n : Nat} {fr fr' : Fr} {H : AH} (hf : ∀ p ∈ fr', Am.get fr p.1 = p.2) : Wk n fr H (fr', H) := fun ρ w tm h1 h2 =>
  ⟨ρ, fun s => by
    show VRel ρ (Am.get fr' s) (tm s)
    rcases get_cases' fr' s with e | ⟨p, hp, rfl, e⟩
    · rw [e]; exact trivial
    · rw [e, ← hf p hp]; exact h1 p.1, h2, fun i _ hi hL _ => ⟨i, hi, hL⟩, fun _ _ => rfl⟩
end
end Go.Proofs.Ytfddaaplnnlfoaa
