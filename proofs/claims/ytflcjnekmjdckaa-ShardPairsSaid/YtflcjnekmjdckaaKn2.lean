/- Layer 4: all ops are told: the iterator's word. -/
import Derived.Test.YtflcjnekmjdckaaKn1
import Derived.Test.YtflcjnekmjdckaaK1
namespace Go.Proofs.Ytflcjnekmjdckaa
open Go.RowKit Go.Shelf
open Go.Am
set_option linter.unusedSimpArgs false
set_option linter.unusedVariables false
noncomputable section
attribute [local go_sem] Oper.semAt_some

/-- the text that a piece of code goes through -/
def litC : Code → Option ByteArray
  | .region _ ops _ => ops.toList.findSome? fun o => match o.op with
    | .range _ (.const (.string s)) => some s
    | _ => none
  | .seq a b => (litC a).or (litC b)
  | _ => none
noncomputable def opS : ByteArray := ((Try.f91.body).bind litC).getD ⟨#[]⟩
def opB : List UInt8 := opS.data.toList
def opc (p : Nat) : Nat := (opB.take p).countP (· == 32)
def frm : Nat → Nat
  | 0 => 0
  | p + 1 => if opB.getD p 0 == 32 then p + 1 else frm p
def okP (p : Nat) : Bool :=
  decide ((opB.getD p 0).toNat < 128) && (if opB.getD p 0 == 32 then decide (opc p < 97) && decide (frm p ≤ p) && decide ((opB.drop (frm p)).take (p - frm p) = nmB.getD (opc p + 1) []) else true)
theorem opB_len : opB.length = 558 := by kernel_rfl
theorem opS_size : opS.size = 558 := by kernel_rfl
theorem okP_all : (List.range 558).all okP = true := by kernel_rfl
theorem op_end : opc 558 = 97 ∧ frm 558 ≤ 558 ∧ (opB.drop (frm 558)).take (558 - frm 558) = nmB.getD 98 [] := by
  refine ⟨by kernel_rfl, by decide +kernel, by kernel_rfl⟩

theorem op_at {p : Nat} (h : p < 558) : okP p = true := List.all_eq_true.1 okP_all p (by simpa using h)
theorem opS_lt {p : Nat} (h : p < 558) : p < opS.size := by rw [opS_size]; exact h
theorem opB_get {p : Nat} (h : p < opS.size) : opB.getD p 0 = opS[p]'h := by
  have : p < opB.length := by rw [opB_len]; rw [opS_size] at h; exact h
  rw [List.getD_eq_getElem?_getD, List.getElem?_eq_getElem this]
  rfl
theorem opc_s {p : Nat} (h : p < 558) : opc (p + 1) = opc p + (if opB.getD p 0 == 32 then 1 else 0) := by
  unfold opc
  have hp : p < opB.length := by rw [opB_len]; exact h
  have e : opB.getD p 0 = opB[p] := by rw [List.getD_eq_getElem?_getD, List.getElem?_eq_getElem hp]; rfl
  rw [List.take_succ_eq_append_getElem hp, List.countP_append, e]
  simp [List.countP_cons]
theorem opS_cut {a b : Nat} : opS.extract a b = ⟨((opB.drop a).take (b - a)).toArray⟩ := by
  apply ByteArray.ext
  rw [ByteArray.data_extract]
  apply Array.ext'
  simp [opB, List.extract]
theorem frm_le : ∀ p, frm p ≤ p
  | 0 => Nat.le_refl _
  | p + 1 => by unfold frm; split <;> first | exact Nat.le_refl _ | exact Nat.le_succ_of_le (frm_le p)
/-- a space: a name has come -/
theorem op_space {p : Nat} (h : p < 558) (hb : opB.getD p 0 = 32) : opc p < 97 ∧ opc (p + 1) = opc p + 1 ∧ frm (p + 1) = p + 1 ∧ opS.extract (frm p) p = nm (opc p + 1) := by
  have := op_at h
  unfold okP at this
  rw [if_pos (by rw [hb]; rfl)] at this
  simp only [Bool.and_eq_true, decide_eq_true_eq] at this
  refine ⟨this.2.1.1, by rw [opc_s h, if_pos (by rw [hb]; rfl)], by rw [frm, if_pos (by rw [hb]; rfl)], ?_⟩
  rw [opS_cut, this.2.2]; rfl
theorem op_letter {p : Nat} (h : p < 558) (hb : opB.getD p 0 ≠ 32) : opc (p + 1) = opc p ∧ frm (p + 1) = frm p := by
  have e : ¬ (opB.getD p 0 == 32) = true := by simpa using hb
  exact ⟨by rw [opc_s h, if_neg e, Nat.add_zero], by rw [frm, if_neg e]⟩
theorem op_ascii {p : Nat} (h : p < opS.size) : (opS[p]'h).toNat < 128 := by
  rw [opS_size] at h
  have := op_at h
  unfold okP at this
  simp only [Bool.and_eq_true, decide_eq_true_eq] at this
  rw [← opB_get (opS_lt h)]; exact this.1
theorem op_last : opS.extract (frm 558) 558 = nm 98 := by
  rw [opS_cut, op_end.2.2]; rfl

/-- the next rune of a text, in whatever world -/
theorem next_at {P : Program} {W : World} {r : Nat} {s : ByteArray} {p : Nat} (ty : TypeId) (hs : W.heap[r]? = some (.stringIter s p)) (h : p < s.size) (ha : (s[p]'h).toNat < 128) :
    (Instr.next (.pointer (some ⟨r, 0, none⟩)) true ty).run P W = .ok (.tuple #[.bool true, .int .i64 p, .int .i32 (s[p]'h).toNat]) (W.putObj r (.stringIter s (p + 1))) := by
  simp only [Instr.next, getObj, setObj, Sem.run_bind, Sem.run, hs, Result.andThen, h, if_true, decode_ascii s p h ha]
  simp [goInt, Sem.run, hs, World.putObj]
theorem next_no {P : Program} {W : World} {r : Nat} {s : ByteArray} {p : Nat} (ty : TypeId) (hs : W.heap[r]? = some (.stringIter s p)) (h : ¬ p < s.size) :
    (Instr.next (.pointer (some ⟨r, 0, none⟩)) true ty).run P W = .ok (.tuple #[.bool false]) W := by
  simp [Instr.next, getObj, Sem.run, hs, h]
end
end Go.Proofs.Ytflcjnekmjdckaa
