/- Layer 4: a name's op: walk; and both as contracts. -/
import Derived.Test.YtflcjnekmjdckaaKn4
namespace Go.Proofs.Ytflcjnekmjdckaa
open Go.RowKit Go.Shelf
open Go.Am
set_option linter.unusedSimpArgs false
set_option linter.unusedVariables false
noncomputable section
attribute [local go_sem] Oper.semAt_some

/-- the op of a name: 0 where there is none -/
def findI (s : ByteArray) : Nat := match (List.range 98).find? (fun k => decide (nm (k + 1) = s)) with
  | some k => k + 1
  | none => 0
def hasI (s : ByteArray) : Bool := ((List.range 98).find? (fun k => decide (nm (k + 1) = s))).isSome
theorem find_hit {s : ByteArray} {k : Nat} (hk : k < 98) (he : nm (k + 1) = s) (hne : ∀ j, j < k → nm (j + 1) ≠ s) : (List.range 98).find? (fun k => decide (nm (k + 1) = s)) = some k := by
  rw [List.find?_range_eq_some]
  exact ⟨by simpa using he, by simpa using hk, fun j hj => by simpa using hne j hj⟩
theorem find_miss {s : ByteArray} (hne : ∀ j, j < 98 → nm (j + 1) ≠ s) : (List.range 98).find? (fun k => decide (nm (k + 1) = s)) = none := by
  rw [List.find?_eq_none]
  intro k hk
  simpa using hne k (by simpa using hk)


/-- no fence at all -/
def F0 : Fence := { fn := fun _ => True }
theorem F0_room (k : Nat) : F0.room k := fun d h => by simp [F0] at h
theorem nm_sizeB (k : Nat) : (nm k).size ≤ 9223372036854775807 := by
  have h : ∀ l ∈ nmB, l.length ≤ 20 := by decide +kernel
  show (nmB.getD k []).length ≤ _
  rw [List.getD_eq_getElem?_getD]
  cases hk : nmB[k]? with
  | none => simp
  | some l => have := h l (List.mem_of_getElem? hk); simp; omega
theorem nameI_size (op : Int) : (nameI op).size ≤ 9223372036854775807 := by
  unfold nameI; split
  · exact nm_sizeB _
  · exact Nat.zero_le _
def s_kname (args : List AV) : Option AV :=
  match args with
  | [.c (.i op)] => some (.c (.s (nameI op)))
  | _ => none
theorem s_kname_eq {op : Int} : s_kname [.c (.i op)] = some (.c (.s (nameI op))) := rfl
def s_kfind (args : List AV) : Option AV :=
  match args with
  | [.c (.s s)] => some (.t [.c (.i (findI s)), .c (.b (hasI s))])
  | _ => none
theorem s_kfind_eq {s : ByteArray} : s_kfind [.c (.s s)] = some (.t [.c (.i (findI s)), .c (.b (hasI s))]) := rfl
theorem findI_lt (s : ByteArray) : findI s ≤ 98 := by
  unfold findI
  split
  · rename_i k hk
    have := List.mem_of_find?_eq_some hk
    simp at this; omega
  · omega
theorem ok_kname : PuOk Try.prog 79 s_kname := by
  refine ⟨enters_of Try.func79 (by kernel_rfl) rfl, fun args v hs ρ w cs hcs => ?_⟩
  unfold s_kname at hs
  split at hs
  · rename_i op
    simp only [Option.some.injEq] at hs
    subst hs
    cases hcs with
    | cons h hr =>
      cases hr
      obtain ⟨rfl, h1, h2⟩ := h
      refine ((name_in F0 3 trivial trivial trivial rfl (Nat.le_refl _) op w).calls F0_room).mono ?_
      rintro e w' ⟨rfl, hk⟩
      exact ⟨_, rfl, fun ρ' => ⟨rfl, nameI_size op⟩, hk⟩
  · simp at hs
end
end Go.Proofs.Ytflcjnekmjdckaa
