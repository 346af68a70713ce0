/- Layer 4: ranges over functions; names, sizes and signs of ops: contracts -/
import Derived.RangeFuncNested
import Derived.RangeFuncBound
import Derived.RangeFuncCalls
import Derived.RangeFuncLeaves
import Derived.Shelf.Abstract
import Derived.Shelf.RegionOpen
import Derived.WalkKit
import Derived.OwnWalkIn
import Derived.TacticsInMore
import Derived.LoopNIn
import Derived.LoopIn
import Derived.Test.YtcbhelkafelofaaGreatTy
import Derived.Test.YtcbhelkafelofaaGreatM1
namespace Go.Proofs.YtcbhelkafelofaaGreat
open Go.RowKit Go.Shelf
open Go.Am
set_option linter.unusedSimpArgs false
set_option linter.unusedVariables false
noncomputable section

attribute [local go_sem] Oper.semAt_some

structure Stb (B : Nat) (I : World → Prop) : Prop where
  new : ∀ W o, I W → o.isCells = false → I (W.alloc o)
  put : ∀ W r o o', I W → B ≤ r → W.heap[r]? = some o → o.isCells = false → o'.isCells = false → I (W.putObj r o')

def SeqC (F : Fence) (n : Nat) (P : Program) (g : Nat) (S : ByteArray) (encs : Nat → Array Value) (N : Nat) : Prop :=
  ∀ (l : Nat) (J : Nat → World → Prop) (Jx : World → Prop) (W : World),
    (∀ k W1 p q, J k W1 → W1.heap[W.heap.size]? = some (.stringIter S p) → J k (W1.putObj W.heap.size (.stringIter S q))) →
    (∀ k W1 p, k < N → J k W1 → W1.heap[W.heap.size]? = some (.stringIter S p) → YieldAt F (n - 1) P l (encs k) W1 fun e W' =>
      (e = .returned (.bool true) ∧ J (k + 1) W' ∧ W'.heap[W.heap.size]? = some (.stringIter S p)) ∨ (e = .returned (.bool false) ∧ Jx W')) →
    J 0 (W.iter S 0) →
    CallsIn F n P g #[.func (.yield l) #[] #[]] W fun e W' => (∃ v, e = .returned v) ∧ (J N W' ∨ Jx W')

def rPost (I : Nat → World → Prop) (Ix : World → Prop) (k : Nat) (W : World) : Exit → Act → World → Prop
  | .normal, _, W' => KeepsOthers W W' ∧ I (k + 1) W'
  | .ret, _, W' => KeepsOthers W W' ∧ Ix W'
  | _, _, _ => False

theorem rf_law {F : Fence} {n : Nat} {P : Program} {g : Operand} {ps : Array Tmp} {assign body : Code} {Q : Exit → Act → World → Prop} {a : Act} {w : World}
    (hro : F.round = none) (h1 : 1 ≤ n) {gf : Nat} (hg : a.eval g = .func (.func gf) #[] #[]) (hFg : F.fn gf) (eg : ∀ args w, (callFunc gf args).run P w = .ok (.enter gf args) w)
    {S : ByteArray} {encs : Nat → Array Value} {N : Nat} (hseq : SeqC F (n - 1) P gf S encs N) (hps : ∀ k, (encs k).size = ps.size)
    (I : Nat → World → Prop) (Ix : World → Prop) (hI : ∀ k, Stb w.heap.size (I k)) (hIx : Stb w.heap.size Ix) (h0 : I 0 w) (a₁ : Nat → Act)
    (hassign : ∀ (l k : Nat) (W : World) (K : Act → World → Prop), K (a₁ k) W →
      assign.wpIn (F.inRound l) (n - 1 - 1) P (Exit.then K (fun _ _ _ => False)) { tmps := (ps.zip (encs k)).foldl (fun t (p, v) => t.setIfInBounds p v) a.tmps, defers := [] } W)
    (hbody : ∀ (l k : Nat) (W : World), I k W → k < N → body.wpIn (F.inRound l) (n - 1 - 1) P (rPost I Ix k W) (a₁ k) W)
    (hdone : ∀ (D : Nat) (W : World), w.heap.size ≤ D → I N W → W.heap[D]? = some (.deferred (some [])) → Q .normal { a with defers := { target := .collected D, args := #[] } :: a.defers } W)
    (hstop : ∀ (D : Nat) (W : World), w.heap.size ≤ D → Ix W → W.heap[D]? = some (.deferred (some [])) → Code.ret.wpIn F n P Q { a with defers := { target := .collected D, args := #[] } :: a.defers } W) :
    (Code.rangeFunc g ps assign body).wpIn F n P Q a w := by
  refine wpIn_rangeFunc fun fn hfn => ?_
  rw [hro]
  obtain ⟨rec, hrec⟩ : ∃ rec : LoopState → Option Code → Loop, rec = fun st pe => { state := st, pending := pe, fn, tmps := a.tmps, params := ps, assign, body, defers := w.heap.size } := ⟨_, rfl⟩
  obtain ⟨W1, hW1⟩ : ∃ W1, (w.alloc (.deferred (some []))).alloc (.loop (rec .ready none)) = W1 := ⟨_, rfl⟩
  have sz : W1.heap.size = w.heap.size + 2 := by rw [← hW1]; simp
  have hL1 : W1.heap[w.heap.size + 1]? = some (.loop (rec .ready none)) := by
    rw [← hW1]
    have := World.alloc_heap_new (w.alloc (.deferred (some []))) (.loop (rec .ready none))
    rwa [World.size_alloc] at this
  have hK1 : W1.heap[w.heap.size]? = some (.deferred (some [])) := by
    rw [← hW1]; exact (Below.heap_alloc _ _ _ (by simp)).trans (World.alloc_heap_new w _)
  have hI1 : I 0 W1 := by rw [← hW1]; exact (hI 0).new _ _ ((hI 0).new _ _ h0 rfl) rfl
  have hret : (Code.ret).wpIn F n P Q = (Code.ret).wpIn F n P Q := rfl
  -- what stands between two rounds, and behind the last one
  let J : Nat → World → Prop := fun k W => I k W ∧ W.heap[w.heap.size + 1]? = some (.loop (rec .ready none)) ∧ W.heap[w.heap.size]? = some (.deferred (some []))
  let Jx : World → Prop := fun W => Ix W ∧ W.heap[w.heap.size + 1]? = some (.loop (rec .done (some .ret))) ∧ W.heap[w.heap.size]? = some (.deferred (some []))
  refine ⟨w.heap.size + 1, [{ target := .collected w.heap.size, args := #[] }], W1, { target := .fn (.func gf) #[], args := #[.func (.yield (w.heap.size + 1)) #[] #[]] }, W1, gf,
    #[.func (.yield (w.heap.size + 1)) #[] #[]], W1, ?_, ?_, ?_, ?_, fun _ => h1, ?_⟩
  · rw [← hW1, hrec]; exact run_enterLoop_outer _ _ _ _ _
  · simp only [resolve, hg]
    simp [go_sem]
  · intro f' hf'; simp [Target.leads] at hf'; subst hf'; exact hFg
  · simp [invoke, go_sem, eg]
  · refine (hseq (w.heap.size + 1) J Jx W1 ?_ ?_ ?_).mono ?_
    · rintro k W p q ⟨hi, hl, hk⟩ hs
      rw [sz] at hs ⊢
      exact ⟨(hI k).put _ _ _ _ hi (by omega) hs rfl rfl, (World.putObj_heap_other (by omega)).trans hl, (World.putObj_heap_other (by omega)).trans hk⟩
    · rintro k W p hlt ⟨hi, hl, hk⟩ hs
      rw [sz] at hs ⊢
      have hll : w.heap.size + 1 < W.heap.size := (Array.getElem?_eq_some_iff.1 hl).1
      have hy := run_yield (P := P) (args := encs k) hl (by rw [hrec]; exact hps k)
      rw [hrec] at hy
      refine ⟨fn, _, assign, body, hy, roundIn_of_wpIn hfn (hassign _ k W _ ⟨_, run_beginRound hl (by rw [hrec]), ?_⟩)⟩
      have hl2 : (W.putObj (w.heap.size + 1) (.loop { rec .ready none with state := .busy })).heap[w.heap.size + 1]? = some (.loop { rec .ready none with state := .busy }) := World.putObj_heap_same hll
      have hk2 : (W.putObj (w.heap.size + 1) (.loop { rec .ready none with state := .busy })).heap[w.heap.size]? = some (.deferred (some [])) := (World.putObj_heap_other (by omega)).trans hk
      have hs2 : (W.putObj (w.heap.size + 1) (.loop { rec .ready none with state := .busy })).heap[w.heap.size + 2]? = some (.stringIter S p) := (World.putObj_heap_other (by omega)).trans hs
      refine wpIn_mono (hbody _ k _ ((hI k).put _ _ _ _ hi (by omega) hl rfl rfl) hlt) ?_
      rintro e a3 W3 hp
      cases e with
      | normal =>
        obtain ⟨hk3, hi3⟩ := hp
        have hl3 := hk3.same _ _ hl2 rfl
        have hr := run_endRound (P := P) none hl3
        refine ⟨_, _, hr, .inl ⟨rfl, ⟨(hI _).put _ _ _ _ hi3 (by omega) hl3 rfl rfl, ?_, ?_⟩, ?_⟩⟩
        · rw [World.putObj_heap_same (Array.getElem?_eq_some_iff.1 hl3).1, hrec]; rfl
        · exact (World.putObj_heap_other (by omega)).trans (hk3.same _ _ hk2 rfl)
        · exact (World.putObj_heap_other (by omega)).trans (hk3.same _ _ hs2 rfl)
      | ret =>
        obtain ⟨hk3, hi3⟩ := hp
        have hl3 := hk3.same _ _ hl2 rfl
        have hr := run_endRound (P := P) (some .ret) hl3
        refine ⟨_, _, hr, .inr ⟨rfl, hIx.put _ _ _ _ hi3 (by omega) hl3 rfl rfl, ?_, ?_⟩⟩
        · rw [World.putObj_heap_same (Array.getElem?_eq_some_iff.1 hl3).1, hrec]; rfl
        · exact (World.putObj_heap_other (by omega)).trans (hk3.same _ _ hk2 rfl)
      | exit id => exact hp.elim
      | goto t => exact hp.elim
      | panic ch => exact hp.elim
      | outgrown => exact hp.elim
    · refine ⟨(hI 0).new _ _ hI1 rfl, ?_, ?_⟩
      · exact (Below.heap_alloc _ _ _ (by omega)).trans hL1
      · exact (Below.heap_alloc _ _ _ (by omega)).trans hK1
    · rintro e W2 ⟨⟨v, rfl⟩, (⟨hi, hl, hk⟩ | ⟨hi, hl, hk⟩)⟩
      · refine ⟨none, _, by have := run_endLoop (P := P) hl (by rw [hrec]; simp); rw [hrec] at this; exact this, ?_⟩
        exact hdone _ _ (Nat.le_refl _) ((hI N).put _ _ _ _ hi (by omega) hl rfl rfl) ((World.putObj_heap_other (by omega)).trans hk)
      · refine ⟨some .ret, _, by have := run_endLoop (P := P) hl (by rw [hrec]; simp); rw [hrec] at this; exact this, ?_⟩
        exact hstop _ _ (Nat.le_refl _) (hIx.put _ _ _ _ hi (by omega) hl rfl rfl) ((World.putObj_heap_other (by omega)).trans hk)

attribute [local go_sem] Oper.semAt_some

def litC : Code → Option ByteArray
  | .region _ ops _ => ops.toList.findSome? fun o => match o.op with
    | .range _ (.const (.string s)) => some s
    | _ => none
  | .seq a b => (litC a).or (litC b)
  | _ => none
noncomputable def opS : ByteArray := ((Tryz.f147.body).bind litC).getD ⟨#[]⟩
def opB : List UInt8 := opS.data.toList
def opc (p : Nat) : Nat := (opB.take p).countP (· == 32)
def frm : Nat → Nat
  | 0 => 0
  | p + 1 => if opB.getD p 0 == 32 then p + 1 else frm p
def okP (p : Nat) : Bool :=
  decide ((opB.getD p 0).toNat < 128) && (if opB.getD p 0 == 32 then decide (opc p < 97) && decide (frm p ≤ p) && decide ((opB.drop (frm p)).take (p - frm p) = nmB.getD (opc p + 1) []) else true)
theorem opB_len : opB.length = 558 := by kernel_rfl
theorem opS_size : opS.size = 558 := by kernel_rfl
theorem okP_all : (List.range 558).all okP = true := by kernel_rfl
theorem op_end : opc 558 = 97 ∧ frm 558 ≤ 558 ∧ (opB.drop (frm 558)).take (558 - frm 558) = nmB.getD 98 [] := by
  refine ⟨by kernel_rfl, by decide +kernel, by kernel_rfl⟩

theorem op_at {p : Nat} (h : p < 558) : okP p = true := List.all_eq_true.1 okP_all p (by simpa using h)
theorem opS_lt {p : Nat} (h : p < 558) : p < opS.size := by rw [opS_size]; exact h
theorem opB_get {p : Nat} (h : p < opS.size) : opB.getD p 0 = opS[p]'h := by
  have : p < opB.length := by rw [opB_len]; rw [opS_size] at h; exact h
  rw [List.getD_eq_getElem?_getD, List.getElem?_eq_getElem this]
  rfl
theorem opc_s {p : Nat} (h : p < 558) : opc (p + 1) = opc p + (if opB.getD p 0 == 32 then 1 else 0) := by
  unfold opc
  have hp : p < opB.length := by rw [opB_len]; exact h
  have e : opB.getD p 0 = opB[p] := by rw [List.getD_eq_getElem?_getD, List.getElem?_eq_getElem hp]; rfl
  rw [List.take_succ_eq_append_getElem hp, List.countP_append, e]
  simp [List.countP_cons]
theorem opS_cut {a b : Nat} : opS.extract a b = ⟨((opB.drop a).take (b - a)).toArray⟩ := by
  apply ByteArray.ext
  rw [ByteArray.data_extract]
  apply Array.ext'
  simp [opB, List.extract]
theorem frm_le : ∀ p, frm p ≤ p
  | 0 => Nat.le_refl _
  | p + 1 => by unfold frm; split <;> first | exact Nat.le_refl _ | exact Nat.le_succ_of_le (frm_le p)
theorem op_space {p : Nat} (h : p < 558) (hb : opB.getD p 0 = 32) : opc p < 97 ∧ opc (p + 1) = opc p + 1 ∧ frm (p + 1) = p + 1 ∧ opS.extract (frm p) p = nm (opc p + 1) := by
  have := op_at h
  unfold okP at this
  rw [if_pos (by rw [hb]; rfl)] at this
  simp only [Bool.and_eq_true, decide_eq_true_eq] at this
  refine ⟨this.2.1.1, by rw [opc_s h, if_pos (by rw [hb]; rfl)], by rw [frm, if_pos (by rw [hb]; rfl)], ?_⟩
  rw [opS_cut, this.2.2]; rfl
theorem op_letter {p : Nat} (h : p < 558) (hb : opB.getD p 0 ≠ 32) : opc (p + 1) = opc p ∧ frm (p + 1) = frm p := by
  have e : ¬ (opB.getD p 0 == 32) = true := by simpa using hb
  exact ⟨by rw [opc_s h, if_neg e, Nat.add_zero], by rw [frm, if_neg e]⟩
theorem op_ascii {p : Nat} (h : p < opS.size) : (opS[p]'h).toNat < 128 := by
  rw [opS_size] at h
  have := op_at h
  unfold okP at this
  simp only [Bool.and_eq_true, decide_eq_true_eq] at this
  rw [← opB_get (opS_lt h)]; exact this.1
theorem op_last : opS.extract (frm 558) 558 = nm 98 := by
  rw [opS_cut, op_end.2.2]; rfl

theorem next_at {P : Program} {W : World} {r : Nat} {s : ByteArray} {p : Nat} (ty : TypeId) (hs : W.heap[r]? = some (.stringIter s p)) (h : p < s.size) (ha : (s[p]'h).toNat < 128) :
    (Instr.next (.pointer (some ⟨r, 0, none⟩)) true ty).run P W = .ok (.tuple #[.bool true, .int .i64 p, .int .i32 (s[p]'h).toNat]) (W.putObj r (.stringIter s (p + 1))) := by
  simp only [Instr.next, getObj, setObj, Sem.run_bind, Sem.run, hs, Result.andThen, h, if_true, decode_ascii s p h ha]
  simp [goInt, Sem.run, hs, World.putObj]
theorem next_no {P : Program} {W : World} {r : Nat} {s : ByteArray} {p : Nat} (ty : TypeId) (hs : W.heap[r]? = some (.stringIter s p)) (h : ¬ p < s.size) :
    (Instr.next (.pointer (some ⟨r, 0, none⟩)) true ty).run P W = .ok (.tuple #[.bool false]) W := by
  simp [Instr.next, getObj, Sem.run, hs, h]

attribute [local go_sem] Oper.semAt_some

set_option maxRecDepth 100000
theorem opLit_eq : (ByteArray.mk #[108, 117, 105, 32, 97, 117, 105, 112, 99, 32, 106, 97, 108, 32, 106, 97, 108, 114, 32, 98, 101, 113, 32, 98, 110, 101, 32, 98, 108, 116, 32, 98, 103, 101, 32, 98, 108, 116, 117, 32, 98, 103, 101, 117, 32, 108, 98, 32, 108, 104, 32, 108, 119, 32, 108, 100, 32, 108, 98, 117, 32, 108, 104, 117, 32, 108, 119, 117, 32, 115, 98, 32, 115, 104, 32, 115, 119, 32, 115, 100, 32, 97, 100, 100, 105, 32, 115, 108, 116, 105, 32, 115, 108, 116, 105, 117, 32, 120, 111, 114, 105, 32, 111, 114, 105, 32, 97, 110, 100, 105, 32, 115, 108, 108, 105, 32, 115, 114, 108, 105, 32, 115, 114, 97, 105, 32, 97, 100, 100, 32, 115, 117, 98, 32, 115, 108, 108, 32, 115, 108, 116, 32, 115, 108, 116, 117, 32, 120, 111, 114, 32, 115, 114, 108, 32, 115, 114, 97, 32, 111, 114, 32, 97, 110, 100, 32, 97, 100, 100, 105, 119, 32, 115, 108, 108, 105, 119, 32, 115, 114, 108, 105, 119, 32, 115, 114, 97, 105, 119, 32, 97, 100, 100, 119, 32, 115, 117, 98, 119, 32, 115, 108, 108, 119, 32, 115, 114, 108, 119, 32, 115, 114, 97, 119, 32, 102, 101, 110, 99, 101, 32, 102, 101, 110, 99, 101, 46, 105, 32, 101, 99, 97, 108, 108, 32, 101, 98, 114, 101, 97, 107, 32, 109, 117, 108, 32, 109, 117, 108, 104, 32, 109, 117, 108, 104, 115, 117, 32, 109, 117, 108, 104, 117, 32, 100, 105, 118, 32, 100, 105, 118, 117, 32, 114, 101, 109, 32, 114, 101, 109, 117, 32, 109, 117, 108, 119, 32, 100, 105, 118, 119, 32, 100, 105, 118, 117, 119, 32, 114, 101, 109, 119, 32, 114, 101, 109, 117, 119, 32, 108, 114, 46, 119, 32, 115, 99, 46, 119, 32, 97, 109, 111, 115, 119, 97, 112, 46, 119, 32, 97, 109, 111, 97, 100, 100, 46, 119, 32, 97, 109, 111, 120, 111, 114, 46, 119, 32, 97, 109, 111, 97, 110, 100, 46, 119, 32, 97, 109, 111, 111, 114, 46, 119, 32, 97, 109, 111, 109, 105, 110, 46, 119, 32, 97, 109, 111, 109, 97, 120, 46, 119, 32, 97, 109, 111, 109, 105, 110, 117, 46, 119, 32, 97, 109, 111, 109, 97, 120, 117, 46, 119, 32, 108, 114, 46, 100, 32, 115, 99, 46, 100, 32, 97, 109, 111, 115, 119, 97, 112, 46, 100, 32, 97, 109, 111, 97, 100, 100, 46, 100, 32, 97, 109, 111, 120, 111, 114, 46, 100, 32, 97, 109, 111, 97, 110, 100, 46, 100, 32, 97, 109, 111, 111, 114, 46, 100, 32, 97, 109, 111, 109, 105, 110, 46, 100, 32, 97, 109, 111, 109, 97, 120, 46, 100, 32, 97, 109, 111, 109, 105, 110, 117, 46, 100, 32, 97, 109, 111, 109, 97, 120, 117, 46, 100, 32, 99, 115, 114, 114, 119, 32, 99, 115, 114, 114, 115, 32, 99, 115, 114, 114, 99, 32, 99, 115, 114, 114, 119, 105, 32, 99, 115, 114, 114, 115, 105, 32, 99, 115, 114, 114, 99, 105, 32, 109, 114, 101, 116, 32, 115, 114, 101, 116, 32, 119, 102, 105, 32, 115, 102, 101, 110, 99, 101, 46, 118, 109, 97]) = opS := by kernel_rfl
theorem cut_2 {a b : Nat} (h1 : a ≤ b) (h2 : b ≤ 558) (w : World) : (Instr.slice 9 (.string (ByteArray.mk #[108, 117, 105, 32, 97, 117, 105, 112, 99, 32, 106, 97, 108, 32, 106, 97, 108, 114, 32, 98, 101, 113, 32, 98, 110, 101, 32, 98, 108, 116, 32, 98, 103, 101, 32, 98, 108, 116, 117, 32, 98, 103, 101, 117, 32, 108, 98, 32, 108, 104, 32, 108, 119, 32, 108, 100, 32, 108, 98, 117, 32, 108, 104, 117, 32, 108, 119, 117, 32, 115, 98, 32, 115, 104, 32, 115, 119, 32, 115, 100, 32, 97, 100, 100, 105, 32, 115, 108, 116, 105, 32, 115, 108, 116, 105, 117, 32, 120, 111, 114, 105, 32, 111, 114, 105, 32, 97, 110, 100, 105, 32, 115, 108, 108, 105, 32, 115, 114, 108, 105, 32, 115, 114, 97, 105, 32, 97, 100, 100, 32, 115, 117, 98, 32, 115, 108, 108, 32, 115, 108, 116, 32, 115, 108, 116, 117, 32, 120, 111, 114, 32, 115, 114, 108, 32, 115, 114, 97, 32, 111, 114, 32, 97, 110, 100, 32, 97, 100, 100, 105, 119, 32, 115, 108, 108, 105, 119, 32, 115, 114, 108, 105, 119, 32, 115, 114, 97, 105, 119, 32, 97, 100, 100, 119, 32, 115, 117, 98, 119, 32, 115, 108, 108, 119, 32, 115, 114, 108, 119, 32, 115, 114, 97, 119, 32, 102, 101, 110, 99, 101, 32, 102, 101, 110, 99, 101, 46, 105, 32, 101, 99, 97, 108, 108, 32, 101, 98, 114, 101, 97, 107, 32, 109, 117, 108, 32, 109, 117, 108, 104, 32, 109, 117, 108, 104, 115, 117, 32, 109, 117, 108, 104, 117, 32, 100, 105, 118, 32, 100, 105, 118, 117, 32, 114, 101, 109, 32, 114, 101, 109, 117, 32, 109, 117, 108, 119, 32, 100, 105, 118, 119, 32, 100, 105, 118, 117, 119, 32, 114, 101, 109, 119, 32, 114, 101, 109, 117, 119, 32, 108, 114, 46, 119, 32, 115, 99, 46, 119, 32, 97, 109, 111, 115, 119, 97, 112, 46, 119, 32, 97, 109, 111, 97, 100, 100, 46, 119, 32, 97, 109, 111, 120, 111, 114, 46, 119, 32, 97, 109, 111, 97, 110, 100, 46, 119, 32, 97, 109, 111, 111, 114, 46, 119, 32, 97, 109, 111, 109, 105, 110, 46, 119, 32, 97, 109, 111, 109, 97, 120, 46, 119, 32, 97, 109, 111, 109, 105, 110, 117, 46, 119, 32, 97, 109, 111, 109, 97, 120, 117, 46, 119, 32, 108, 114, 46, 100, 32, 115, 99, 46, 100, 32, 97, 109, 111, 115, 119, 97, 112, 46, 100, 32, 97, 109, 111, 97, 100, 100, 46, 100, 32, 97, 109, 111, 120, 111, 114, 46, 100, 32, 97, 109, 111, 97, 110, 100, 46, 100, 32, 97, 109, 111, 111, 114, 46, 100, 32, 97, 109, 111, 109, 105, 110, 46, 100, 32, 97, 109, 111, 109, 97, 120, 46, 100, 32, 97, 109, 111, 109, 105, 110, 117, 46, 100, 32, 97, 109, 111, 109, 97, 120, 117, 46, 100, 32, 99, 115, 114, 114, 119, 32, 99, 115, 114, 114, 115, 32, 99, 115, 114, 114, 99, 32, 99, 115, 114, 114, 119, 105, 32, 99, 115, 114, 114, 115, 105, 32, 99, 115, 114, 114, 99, 105, 32, 109, 114, 101, 116, 32, 115, 114, 101, 116, 32, 119, 102, 105, 32, 115, 102, 101, 110, 99, 101, 46, 118, 109, 97])) (some (.int .i64 (a : Int))) (some (.int .i64 (b : Int))) none).run Tryz.prog w = .ok (.string (opS.extract a b)) w := by
  rw [opLit_eq]
  have := run_slice_string (P := Tryz.prog) (w := w) 9 opS .i64 .i64 (a : Int) (b : Int) Tryz.underlying9 (by omega) (by omega) (by rw [opS_size]; omega)
  rw [this]; rfl
theorem cut_1 {a : Nat} (h2 : a ≤ 558) (w : World) : (Instr.slice 9 (.string (ByteArray.mk #[108, 117, 105, 32, 97, 117, 105, 112, 99, 32, 106, 97, 108, 32, 106, 97, 108, 114, 32, 98, 101, 113, 32, 98, 110, 101, 32, 98, 108, 116, 32, 98, 103, 101, 32, 98, 108, 116, 117, 32, 98, 103, 101, 117, 32, 108, 98, 32, 108, 104, 32, 108, 119, 32, 108, 100, 32, 108, 98, 117, 32, 108, 104, 117, 32, 108, 119, 117, 32, 115, 98, 32, 115, 104, 32, 115, 119, 32, 115, 100, 32, 97, 100, 100, 105, 32, 115, 108, 116, 105, 32, 115, 108, 116, 105, 117, 32, 120, 111, 114, 105, 32, 111, 114, 105, 32, 97, 110, 100, 105, 32, 115, 108, 108, 105, 32, 115, 114, 108, 105, 32, 115, 114, 97, 105, 32, 97, 100, 100, 32, 115, 117, 98, 32, 115, 108, 108, 32, 115, 108, 116, 32, 115, 108, 116, 117, 32, 120, 111, 114, 32, 115, 114, 108, 32, 115, 114, 97, 32, 111, 114, 32, 97, 110, 100, 32, 97, 100, 100, 105, 119, 32, 115, 108, 108, 105, 119, 32, 115, 114, 108, 105, 119, 32, 115, 114, 97, 105, 119, 32, 97, 100, 100, 119, 32, 115, 117, 98, 119, 32, 115, 108, 108, 119, 32, 115, 114, 108, 119, 32, 115, 114, 97, 119, 32, 102, 101, 110, 99, 101, 32, 102, 101, 110, 99, 101, 46, 105, 32, 101, 99, 97, 108, 108, 32, 101, 98, 114, 101, 97, 107, 32, 109, 117, 108, 32, 109, 117, 108, 104, 32, 109, 117, 108, 104, 115, 117, 32, 109, 117, 108, 104, 117, 32, 100, 105, 118, 32, 100, 105, 118, 117, 32, 114, 101, 109, 32, 114, 101, 109, 117, 32, 109, 117, 108, 119, 32, 100, 105, 118, 119, 32, 100, 105, 118, 117, 119, 32, 114, 101, 109, 119, 32, 114, 101, 109, 117, 119, 32, 108, 114, 46, 119, 32, 115, 99, 46, 119, 32, 97, 109, 111, 115, 119, 97, 112, 46, 119, 32, 97, 109, 111, 97, 100, 100, 46, 119, 32, 97, 109, 111, 120, 111, 114, 46, 119, 32, 97, 109, 111, 97, 110, 100, 46, 119, 32, 97, 109, 111, 111, 114, 46, 119, 32, 97, 109, 111, 109, 105, 110, 46, 119, 32, 97, 109, 111, 109, 97, 120, 46, 119, 32, 97, 109, 111, 109, 105, 110, 117, 46, 119, 32, 97, 109, 111, 109, 97, 120, 117, 46, 119, 32, 108, 114, 46, 100, 32, 115, 99, 46, 100, 32, 97, 109, 111, 115, 119, 97, 112, 46, 100, 32, 97, 109, 111, 97, 100, 100, 46, 100, 32, 97, 109, 111, 120, 111, 114, 46, 100, 32, 97, 109, 111, 97, 110, 100, 46, 100, 32, 97, 109, 111, 111, 114, 46, 100, 32, 97, 109, 111, 109, 105, 110, 46, 100, 32, 97, 109, 111, 109, 97, 120, 46, 100, 32, 97, 109, 111, 109, 105, 110, 117, 46, 100, 32, 97, 109, 111, 109, 97, 120, 117, 46, 100, 32, 99, 115, 114, 114, 119, 32, 99, 115, 114, 114, 115, 32, 99, 115, 114, 114, 99, 32, 99, 115, 114, 114, 119, 105, 32, 99, 115, 114, 114, 115, 105, 32, 99, 115, 114, 114, 99, 105, 32, 109, 114, 101, 116, 32, 115, 114, 101, 116, 32, 119, 102, 105, 32, 115, 102, 101, 110, 99, 101, 46, 118, 109, 97])) (some (.int .i64 (a : Int))) none none).run Tryz.prog w = .ok (.string (opS.extract a 558)) w := by
  rw [opLit_eq]
  have := run_slice_string_l (P := Tryz.prog) (w := w) 9 opS Tryz.underlying9 .i64 (a : Int) (by omega) (by rw [opS_size]; omega)
  rw [this, opS_size]; rfl
def opE (k : Nat) : Array Value := #[.int .i64 ((k : Int) + 1), .string (nm (k + 1))]
set_option maxRecDepth 100000 in
set_option maxHeartbeats 4000000 in
theorem all_seq (F : Fence) (n : Nat) (hf : F.fn 147) (hro : F.round = none) (hn : 1 ≤ n) : SeqC F n Tryz.prog 147 opS opE 98 := fun l J Jx W hA hY h0 => by
  refine callsIn_of_wp Tryz.func147 rfl hf ?_ hro
  simp only [Tryz.ntmps147, List.size_toArray, List.length_cons, List.length_nil, Nat.reduceAdd, Nat.reduceSub, Array.replicate_succ, Array.replicate_zero, List.push_toArray, List.append_toArray, List.nil_append, List.cons_append]
  gi_wp2
  gi_loopw [2, 3] (fun o f wr => ∃ p : Nat, p ≤ 558 ∧ o = .int .i64 ((opc p : Int) + 1) ∧ f = .int .i64 (frm p : Int) ∧ wr.heap[W.heap.size]? = some (.stringIter opS p) ∧ J (opc p) wr)
    (fun _ _ wr => 558 - wr.iterPos W.heap.size)
  case atStart =>
    exact ⟨0, by omega, rfl, rfl, World.iter_heap _ _ _, h0⟩
  case round =>
    obtain ⟨p, hp, rfl, rfl, hs, hJ⟩ := hrel
    by_cases hlt : p < 558
    · have hnx := fun ty => next_at (P := Tryz.prog) ty hs (opS_lt hlt) (op_ascii (opS_lt hlt))
      have hJ2 := hA _ _ p (p + 1) hJ hs
      have hs2 : (wr.putObj W.heap.size (.stringIter opS (p + 1))).heap[W.heap.size]? = some (.stringIter opS (p + 1)) := World.putObj_heap_same (Array.getElem?_eq_some_iff.1 hs).1
      have hpos : (wr.putObj W.heap.size (.stringIter opS (p + 1))).iterPos W.heap.size = p + 1 := by simp only [World.iterPos, hs2]
      have hpos0 : wr.iterPos W.heap.size = p := by simp only [World.iterPos, hs]
      have hbyte := opB_get (opS_lt hlt)
      by_cases hb : opB.getD p 0 = 32
      · obtain ⟨g1, g2, g3', g4⟩ := op_space hlt hb
        have g3 := frm_le p
        obtain ⟨fn, tmps, assign, body, hy, hR⟩ := hY (opc p) _ (p + 1) (by omega) hJ2 hs2
        dsimp only [opE] at hy
        rw [← hbyte, hb] at hnx
        have hsl := cut_2 g3 (by omega : p ≤ 558)
        gi_wp2
        refine hR.mono ?_
        rintro e W3 (⟨rfl, hJ3, hs3⟩ | ⟨rfl, hJx3⟩)
        · gi_wp2
          go_roundw
          case rel => exact ⟨p + 1, by omega, by rw [g2]; simp [wrap64] <;> omega, by rw [g3']; simp [wrap64] <;> omega, hs3, by rw [g2]; exact hJ3⟩
          case measure => simp [World.iterPos, hs3, hs] <;> omega
        · gi_wp2
          refine bodyPost_ret (results_none rfl _ _ _) rfl ?_
          exact ⟨⟨_, rfl⟩, .inr hJx3⟩
      · obtain ⟨g2, g3⟩ := op_letter hlt hb
        have hb2 : ((opS[p]'(opS_lt hlt)).toNat : Int) ≠ 32 := by
          rw [← hbyte]; intro h; apply hb
          have : (opB.getD p 0).toNat = 32 := by omega
          exact UInt8.toNat_inj.1 this
        gi_wp2
        go_roundw
        case rel => exact ⟨p + 1, by omega, by rw [g2], by rw [g3], hs2, by rw [g2]; exact hJ2⟩
        case measure => simp [World.iterPos, hs2, hs] <;> omega
    · obtain rfl : p = 558 := by omega
      have hnx := fun ty => next_no (P := Tryz.prog) ty hs (by rw [opS_size]; omega)
      obtain ⟨e1, e2, e3⟩ := op_end
      rw [e1] at hJ
      obtain ⟨fn, tmps, assign, body, hy, hR⟩ := hY 97 _ 558 (by omega) hJ hs
      have hy : (Instr.yield l #[.int .i64 98, .string (nm 98)]).run Tryz.prog wr = .ok (.round l fn tmps assign body) wr := hy
      have hsl := cut_1 e2
      rw [op_last] at hsl
      rw [e1]
      gi_wp2
      refine hR.mono ?_
      rintro e W3 (⟨rfl, hJ3, hs3⟩ | ⟨rfl, hJx3⟩)
      · gi_wp2
        go_end0
        exact ⟨⟨_, rfl⟩, .inl hJ3⟩
      · gi_wp2
        go_end0
        exact ⟨⟨_, rfl⟩, .inr hJx3⟩

attribute [local go_sem] Oper.semAt_some

def nameI (op : Int) : ByteArray := if 1 ≤ op ∧ op ≤ 98 then nm op.toNat else ⟨#[]⟩
def KN (w W : World) : Prop := Go.Am.Keep w (fun _ => False) W
theorem kn_new {w W : World} {o : Obj} (h : KN w W) (ho : o.isCells = false) : KN w (W.alloc o) := by
  refine ⟨h.os, h.tape, h.output, by have := h.size; simp; omega, fun b hb hm => ?_, fun b c t f hf hm => ?_⟩
  · rw [alloc_block _ _ _ (Nat.lt_of_lt_of_le hb h.size)]; exact h.old b hb hm
  · by_cases e : b = W.heap.size
    · subst e; rw [alloc_new] at hf; simp at hf; subst hf; simp [Obj.isCells] at ho
    · rcases Nat.lt_or_ge b W.heap.size with h' | h'
      · rw [alloc_block _ _ _ h'] at hf; exact h.free b c t f hf hm
      · rw [Array.getElem?_eq_none (by simp; omega)] at hf; simp at hf
theorem kn_put {w W : World} {r : Nat} {o' : Obj} (h : KN w W) (hr : w.heap.size ≤ r) (hl : r < W.heap.size) (ho : o'.isCells = false) : KN w (W.putObj r o') := by
  refine ⟨h.os, h.tape, h.output, by have := h.size; simp; omega, fun b hb hm => ?_, fun b c t f hf hm => ?_⟩
  · rw [World.putObj_heap_other (by omega)]; exact h.old b hb hm
  · by_cases e : b = r
    · subst e; rw [World.putObj_heap_same hl] at hf; simp at hf; subst hf; simp [Obj.isCells] at ho
    · rw [World.putObj_heap_other e] at hf; exact h.free b c t f hf hm
theorem kn_cells {w W : World} (h : KN w W) (c : Array Value) (t : Nat) : KN w (W.alloc (.cells c t)) := Go.Am.Keep.alloc h c t
theorem kn_set {w W : World} {b i : Nat} {v : Value} (h : KN w W) (hr : w.heap.size ≤ b) : KN w (W.setCell ⟨b, i, none⟩ v) := by
  have e : ∀ k, (W.setCell ⟨b, i, none⟩ v).heap[k]? = if b = k then (W.heap[k]?).map (fun o => match o with | .cells c t f => .cells (c.setIfInBounds i v) t f | o => o) else W.heap[k]? := by
    intro k
    simp only [World.setCell, Array.getElem?_modify]
    split
    · cases W.heap[k]? with
      | none => rfl
      | some o => cases o <;> rfl
    · rfl
  refine ⟨h.os, h.tape, h.output, by have := h.size; show _ ≤ (W.heap.modify _ _).size; rw [Array.size_modify]; exact this, fun k hk hm => ?_, fun k c t f hf hm => ?_⟩
  · rw [e, if_neg (by omega)]; exact h.old k hk hm
  · rw [e] at hf
    split at hf
    · cases ho : W.heap[k]? with
      | none => rw [ho] at hf; simp at hf
      | some o =>
        rw [ho] at hf
        cases o with
        | cells c' t' f' => simp at hf; obtain ⟨_, rfl, rfl⟩ := hf; exact h.free k c' t' _ ho hm
        | _ => simp at hf
    · exact h.free k c t f hf hm
theorem cell_alloc_l {W : World} {a : Addr} {v : Value} (o : Obj) (h : W.cell? a = some v) : (W.alloc o).cell? a = some v := cell_kept h (World.grownBy_alloc W o none) (fun r e => by cases e)
theorem frozen_alloc_l {W : World} {a : Addr} {v : Value} (o : Obj) (h : W.cell? a = some v) (hf : W.frozen? a = false) : (W.alloc o).frozen? a = false := (frozen_kept h (World.grownBy_alloc W o none) (fun r e => by cases e)).trans hf
theorem cell_new_l (W : World) (v : Value) (t : TypeId) : (W.alloc (.cells #[v] t)).cell? ⟨W.heap.size, 0, none⟩ = some v ∧ (W.alloc (.cells #[v] t)).frozen? ⟨W.heap.size, 0, none⟩ = false := by
  have h : ∀ (V : World) (B : Nat), V.heap[B]? = some (.cells #[v] t (0, 0)) → V.cell? ⟨B, 0, none⟩ = some v ∧ V.frozen? ⟨B, 0, none⟩ = false := by
    intro V B h
    constructor <;> simp [World.cell?, World.frozen?, h]
  exact h _ _ (World.alloc_heap_new W _)
theorem stb_cell {B : Nat} {p : Addr} {v : Value} : Stb B fun W => W.cell? p = some v ∧ W.frozen? p = false := by
  refine ⟨fun W o ⟨h1, h2⟩ _ => ?_, fun W r o o' ⟨h1, h2⟩ _ hr ho ho' => ?_⟩
  · exact ⟨cell_alloc_l _ h1, frozen_alloc_l _ h1 h2⟩
  · have hg := grownBy_putObj' W r o'
    have hk : ∀ k, some r = some k → ∃ o : Obj, W.heap[k]? = some o ∧ o.isCells = false := fun k e => by cases e; exact ⟨o, hr, ho⟩
    exact ⟨cell_kept h1 hg hk, (frozen_kept h1 hg hk).trans h2⟩
theorem stb_kn {w : World} {B : Nat} (h : w.heap.size ≤ B) : Stb B fun W => KN w W :=
  ⟨fun W o hi ho => kn_new hi ho, fun W r o o' hi hB hr ho ho' => kn_put hi (by omega) (Array.getElem?_eq_some_iff.1 hr).1 ho'⟩
theorem Stb.and {B : Nat} {I J : World → Prop} (h : Stb B I) (h' : Stb B J) : Stb B fun W => I W ∧ J W :=
  ⟨fun W o hi ho => ⟨h.new W o hi.1 ho, h'.new W o hi.2 ho⟩, fun W r o o' hi hB hr ho ho' => ⟨h.put W r o o' hi.1 hB hr ho ho', h'.put W r o o' hi.2 hB hr ho ho'⟩⟩
theorem stb_pure {B : Nat} {p : Prop} : Stb B fun _ => p := ⟨fun _ _ h _ => h, fun _ _ _ _ h _ _ _ _ => h⟩

theorem allf_in (F : Fence) (n : Nat) (hf : F.fn 144) (hro : F.round = none) (w : World) : CallsIn F n Tryz.prog 144 #[] w fun e w' => e = .returned (.func (.func 147) #[] #[]) ∧ w' = w := by
  refine callsIn_of_wp Tryz.func144 rfl hf ?_ hro
  simp only [Tryz.ntmps144, List.size_toArray, List.length_cons, List.length_nil, Nat.reduceAdd, Nat.reduceSub, Array.replicate_succ, Array.replicate_zero, List.push_toArray, List.append_toArray, List.nil_append, List.cons_append]
  gi_wp2
  go_ret
  exact ⟨rfl, rfl⟩

set_option maxRecDepth 100000 in
set_option maxHeartbeats 4000000 in
theorem name_in (F : Fence) (n : Nat) (h9 : F.fn 122) (h10 : F.fn 144) (h20 : F.fn 147) (hro : F.round = none) (hn : 3 ≤ n) (op : Int) (w : World) :
    CallsIn F n Tryz.prog 122 #[.int .i64 op] w fun e W' => e = .returned (.string (nameI op)) ∧ KN w W' := by
  have h1 : 1 ≤ n := by omega
  have hkw : KN w w := Go.Am.keep_0 w
  refine callsIn_of_wp_marks Tryz.func122 rfl h9 ?_ hro
  simp only [Tryz.ntmps122, List.size_toArray, List.length_cons, List.length_nil, Nat.reduceAdd, Nat.reduceSub, Array.replicate_succ, Array.replicate_zero, List.push_toArray, List.append_toArray, List.nil_append, List.cons_append]
  gi_wp2_with (gi_at_call 144; refine (allf_in F (n - 1) h10 hro _).mono ?_; rintro e w' ⟨rfl, rfl⟩)
  have c0 := cell_new_l w (.int .i64 op) 38
  have c1 := cell_new_l (w.alloc (.cells #[.int .i64 op] 38)) (.string ⟨#[]⟩) 9
  rw [World.size_alloc] at c1
  refine rf_law hro h1 rfl h20 (enters_of Tryz.func147 (by kernel_rfl) rfl) (all_seq F (n - 1) h20 hro (by omega)) (fun _ => rfl)
    (fun k W => KN w W ∧ (W.cell? ⟨w.heap.size, 0, none⟩ = some (.int .i64 op) ∧ W.frozen? ⟨w.heap.size, 0, none⟩ = false) ∧ (W.cell? ⟨w.heap.size + 1, 0, none⟩ = some (.string ⟨#[]⟩) ∧ W.frozen? ⟨w.heap.size + 1, 0, none⟩ = false) ∧ ∀ j : Nat, j < k → (j : Int) + 1 ≠ op)
    (fun W => KN w W ∧ (W.cell? ⟨w.heap.size + 1, 0, none⟩ = some (.string (nameI op)) ∧ W.frozen? ⟨w.heap.size + 1, 0, none⟩ = false))
    (fun k => (stb_kn (by simp; omega)).and (stb_cell.and (stb_cell.and stb_pure))) ((stb_kn (by simp; omega)).and stb_cell)
    ⟨kn_cells (kn_cells hkw _ _) _ _, ⟨cell_alloc_l _ c0.1, frozen_alloc_l _ c0.1 c0.2⟩, c1, fun j hj => absurd hj (Nat.not_lt_zero _)⟩
    (fun k => { tmps := #[.int .i64 op, .pointer (some ⟨w.heap.size, 0, none⟩), .pointer (some ⟨w.heap.size + 1, 0, none⟩), .int .i64 ((k : Int) + 1), .string (nm (k + 1)), .func (.func 147) #[] #[], .int .i64 ((k : Int) + 1), .string (nm (k + 1)), undef, undef, undef, undef], defers := [] }) ?assign ?body ?done ?stop
  case assign =>
    intro l k W K hK
    simp only [opE]
    gi_wp2
    exact hK
  case body =>
    rintro l k W ⟨hkn, ⟨hc0, hf0⟩, ⟨hc1, hf1⟩, hne⟩ hlt
    gi_wp2
    · rename_i hx
      obtain rfl : (k : Int) + 1 = op := eq_of_beq hx
      refine ⟨KeepsOthers.setCell _ _ _, kn_set hkn (by omega), ?_, by rw [World.frozen?_setCell]; exact hf1⟩
      have : nameI ((k : Int) + 1) = nm (k + 1) := by
        unfold nameI; rw [if_pos (by omega)]; congr 1
      rw [this]
      exact World.cell?_setCell_same' _ _ _ (by rw [hc1]; rfl)
    · rename_i hx
      refine ⟨KeepsOthers.refl _, hkn, ⟨hc0, hf0⟩, ⟨hc1, hf1⟩, fun j hj => ?_⟩
      rcases Nat.lt_succ_iff_lt_or_eq.1 hj with hj | rfl
      · exact hne j hj
      · intro e; simp [e] at hx
  case done =>
    rintro D W hD ⟨hkn, ⟨hc0, hf0⟩, ⟨hc1, hf1⟩, hne⟩ hK
    gi_wp2
    have hK' := (KeepsOthers.setCell W ⟨w.heap.size + 1, 0, none⟩ (.string ⟨#[]⟩)).same D _ hK rfl
    refine ⟨by simp, .inl ⟨_, _, rfl, run_takeDeferred hK', ?_⟩⟩
    have hc5 := cell_kept (World.cell?_setCell_same' W ⟨w.heap.size + 1, 0, none⟩ (.string ⟨#[]⟩) (by rw [hc1]; rfl)) (grownBy_putObj' _ D (.deferred none)) (fun r e => by cases e; exact ⟨_, hK', rfl⟩)
    refine ⟨.string ⟨#[]⟩, by simp [results, Tryz.f122, go_sem, hc5], ?_, ?_⟩
    · have : nameI op = ⟨#[]⟩ := by
        unfold nameI; rw [if_neg (fun h => hne (op.toNat - 1) (by omega) (by omega))]
      rw [this]
    · simp only [World.size_alloc] at hD
      exact kn_put (kn_set hkn (by omega)) (by omega) (Array.getElem?_eq_some_iff.1 hK').1 rfl
  case stop =>
    rintro D W hD ⟨hkn, hc1, hf1⟩ hK
    gi_wp2
    refine ⟨by simp, .inl ⟨_, _, rfl, run_takeDeferred hK, ?_⟩⟩
    have hc5 := cell_kept hc1 (grownBy_putObj' _ D (.deferred none)) (fun r e => by cases e; exact ⟨_, hK, rfl⟩)
    simp only [World.size_alloc] at hD
    exact ⟨_, by simp [results, Tryz.f122, go_sem, hc5], rfl, kn_put hkn (by omega) (Array.getElem?_eq_some_iff.1 hK).1 rfl⟩

attribute [local go_sem] Oper.semAt_some

def findI (s : ByteArray) : Nat := match (List.range 98).find? (fun k => decide (nm (k + 1) = s)) with
  | some k => k + 1
  | none => 0
def hasI (s : ByteArray) : Bool := ((List.range 98).find? (fun k => decide (nm (k + 1) = s))).isSome

def F0 : Fence := { fn := fun _ => True }
theorem F0_room (k : Nat) : F0.room k := fun d h => by simp [F0] at h
theorem nm_sizeB (k : Nat) : (nm k).size ≤ 9223372036854775807 := by
  have h : ∀ l ∈ nmB, l.length ≤ 20 := by decide +kernel
  show (nmB.getD k []).length ≤ _
  rw [List.getD_eq_getElem?_getD]
  cases hk : nmB[k]? with
  | none => simp
  | some l => have := h l (List.mem_of_getElem? hk); simp; omega
theorem nameI_size (op : Int) : (nameI op).size ≤ 9223372036854775807 := by
  unfold nameI; split
  · exact nm_sizeB _
  · exact Nat.zero_le _
def s_kname (args : List AV) : Option AV :=
  match args with
  | [.c (.i op)] => some (.c (.s (nameI op)))
  | _ => none
theorem s_kname_eq {op : Int} : s_kname [.c (.i op)] = some (.c (.s (nameI op))) := rfl
def s_kfind (args : List AV) : Option AV :=
  match args with
  | [.c (.s s)] => some (.t [.c (.i (findI s)), .c (.b (hasI s))])
  | _ => none
theorem ok_kname : PuOk Tryz.prog 122 s_kname := by
  refine ⟨enters_of Tryz.func122 (by kernel_rfl) rfl, fun args v hs ρ w cs hcs => ?_⟩
  unfold s_kname at hs
  split at hs
  · rename_i op
    simp only [Option.some.injEq] at hs
    subst hs
    cases hcs with
    | cons h hr =>
      cases hr
      obtain ⟨rfl, h1, h2⟩ := h
      refine ((name_in F0 3 trivial trivial trivial rfl (Nat.le_refl _) op w).calls F0_room).mono ?_
      rintro e w' ⟨rfl, hk⟩
      exact ⟨_, rfl, fun ρ' => ⟨rfl, nameI_size op⟩, hk⟩
  · simp at hs

theorem suf_h {a b : ByteArray} (h1 : b.size ≤ a.size) : (((a.size : Int) - (b.size : Int)).toNat) = a.size - b.size := by omega
def s_hassx (args : List AV) : Option AV :=
  match args with
  | [.c (.s a), .c (.s b)] => if a.size ≤ 9223372036854775807 ∧ b.size ≤ 9223372036854775807 then some (.c (.b (endsB a b))) else none
  | _ => none
theorem s_hassx_eq {a b} : s_hassx [.c (.s a), .c (.s b)] = if a.size ≤ 9223372036854775807 ∧ b.size ≤ 9223372036854775807 then some (.c (.b (endsB a b))) else none := rfl
set_option maxRecDepth 100000 in
set_option maxHeartbeats 2000000 in
theorem ok_hassx : PuOk Tryz.prog 143 s_hassx := by
  refine pu_ok (tab := []) hmix TabOk.nil Tryz.func143 rfl Tryz.results143 Tryz.ntmps143 (by kernel_rfl) (by kernel_rfl) ?_
  intro args v h
  unfold s_hassx at h
  split at h
  · rename_i a b
    split at h
    · rename_i hc
      simp only [Option.some.injEq] at h; subst h
      refine ⟨by simp only [List.length_cons, List.length_nil]; decide, rfl, rfl, ?_⟩
      by_cases h1 : b.size ≤ a.size
      · have e := suf_h h1
        have e2 : ((b.size : Int) ≤ (a.size : Int)) = True := eq_true (by omega)
        (try simp (config := { maxSteps := 10000000 }) only [go_sem, seval, endsB, h1, e, e2]; repeat (simp (disch := omega) only [w64_d, ipos, ineg, dpos, dneg]; try simp (config := { maxSteps := 10000000 }) only [go_sem, seval, endsB, h1, e, e2]))
      · have e2 : ((b.size : Int) ≤ (a.size : Int)) = False := eq_false (by omega)
        (try simp (config := { maxSteps := 10000000 }) only [go_sem, seval, endsB, h1, e2]; repeat (simp (disch := omega) only [w64_d, ipos, ineg, dpos, dneg]; try simp (config := { maxSteps := 10000000 }) only [go_sem, seval, endsB, h1, e2]))
    · simp at h
  · simp at h
def s_hassuf (args : List AV) : Option AV :=
  match args with
  | [.c (.s a), .c (.s b)] => if a.size ≤ 9223372036854775807 ∧ b.size ≤ 9223372036854775807 then some (.c (.b (endsB a b))) else none
  | _ => none
theorem s_hassuf_eq {a b} : s_hassuf [.c (.s a), .c (.s b)] = if a.size ≤ 9223372036854775807 ∧ b.size ≤ 9223372036854775807 then some (.c (.b (endsB a b))) else none := rfl
set_option maxRecDepth 100000 in
set_option maxHeartbeats 2000000 in
theorem ok_hassuf : PuOk Tryz.prog 121 s_hassuf := by
  refine pu_ok (tab := [(143, .pu s_hassx)]) hmix (TabOk.cons (e := .pu s_hassx) ok_hassx TabOk.nil) Tryz.func121 rfl Tryz.results121 Tryz.ntmps121 (by kernel_rfl) (by kernel_rfl) ?_
  intro args v h
  unfold s_hassuf at h
  split at h
  · rename_i a b
    split at h
    · rename_i hc
      simp only [Option.some.injEq] at h; subst h
      refine ⟨by simp only [List.length_cons, List.length_nil]; decide, rfl, rfl, ?_⟩
      (try simp (config := { maxSteps := 10000000 }) only [go_sem, seval, s_hassx_eq, hc]; repeat (simp (disch := omega) only [w64_d, ipos, ineg, dpos, dneg]; try simp (config := { maxSteps := 10000000 }) only [go_sem, seval, s_hassx_eq, hc]))
    · simp at h
  · simp at h
theorem sufd : ∀ k : Nat, k < 89 → 67 ≤ k → endsB (nm k) (⟨#[46, 100]⟩ : ByteArray) = decide (78 ≤ k) := by decide +kernel
theorem class_5 {op : Int} : (classI op = 5) = (11 ≤ op ∧ op ≤ 17) := by
  apply propext
  simp only [classI, wiB, Bool.and_eq_true, decide_eq_true_eq]
  repeat' split
  all_goals omega
theorem class_6 {op : Int} : (classI op = 6) = (18 ≤ op ∧ op ≤ 21) := by
  apply propext
  simp only [classI, wiB, Bool.and_eq_true, decide_eq_true_eq]
  repeat' split
  all_goals omega
theorem class_7' {op : Int} : (classI op = 7) = (67 ≤ op ∧ op ≤ 88) := by
  apply propext
  simp only [classI, wiB, Bool.and_eq_true, decide_eq_true_eq]
  repeat' split
  all_goals omega
def s_ksize (args : List AV) : Option AV :=
  match args with
  | [.c (.i op)] => some (.c (.i (sizeI op)))
  | _ => none
theorem s_ksize_eq {op} : s_ksize [.c (.i op)] = some (.c (.i (sizeI op))) := rfl
set_option maxRecDepth 100000 in
set_option maxHeartbeats 2000000 in
theorem ok_ksize : PuOk Tryz.prog 79 s_ksize := by
  refine pu_ok (tab := [(120, .pu s_class), (122, .pu s_kname), (121, .pu s_hassuf)]) hmix (TabOk.cons (e := .pu s_class) ok_class (TabOk.cons (e := .pu s_kname) ok_kname (TabOk.cons (e := .pu s_hassuf) ok_hassuf TabOk.nil))) Tryz.func79 rfl Tryz.results79 Tryz.ntmps79 (by kernel_rfl) (by kernel_rfl) ?_
  intro args v h
  unfold s_ksize at h
  split at h
  · rename_i op
    simp only [Option.some.injEq] at h; subst h
    refine ⟨by simp only [List.length_cons, List.length_nil]; decide, rfl, rfl, ?_⟩
    by_cases h5 : classI op = 5
    · have h := h5
      rw [class_5] at h
      have : op = 11 ∨ op = 12 ∨ op = 13 ∨ op = 14 ∨ op = 15 ∨ op = 16 ∨ op = 17 := by omega
      rcases this with rfl | rfl | rfl | rfl | rfl | rfl | rfl
      all_goals (try simp (config := { maxSteps := 10000000 }) only [go_sem, seval, s_class_eq, s_kname_eq, s_hassuf_eq, h5]; repeat (simp (disch := omega) only [w64_d, ipos, ineg, dpos, dneg]; try simp (config := { maxSteps := 10000000 }) only [go_sem, seval, s_class_eq, s_kname_eq, s_hassuf_eq, h5]))
      all_goals exact congrArg (fun n => some (AV.c (Sc.i n))) (by decide +kernel)
    by_cases h6 : classI op = 6
    · have h := h6
      rw [class_6] at h
      have : op = 18 ∨ op = 19 ∨ op = 20 ∨ op = 21 := by omega
      rcases this with rfl | rfl | rfl | rfl
      all_goals (try simp (config := { maxSteps := 10000000 }) only [go_sem, seval, s_class_eq, s_kname_eq, s_hassuf_eq, h6]; repeat (simp (disch := omega) only [w64_d, ipos, ineg, dpos, dneg]; try simp (config := { maxSteps := 10000000 }) only [go_sem, seval, s_class_eq, s_kname_eq, s_hassuf_eq, h6]))
      all_goals exact congrArg (fun n => some (AV.c (Sc.i n))) (by decide +kernel)
    by_cases h7 : classI op = 7
    · have h := h7
      rw [class_7'] at h
      obtain ⟨k, rfl⟩ := Int.eq_ofNat_of_zero_le (by omega : 0 ≤ op)
      have e1 : nameI (k : Int) = nm k := by unfold nameI; rw [if_pos (by omega)]; rfl
      have e2 := sufd k (by omega) (by omega)
      have i1 : (nm k).size ≤ 9223372036854775807 := nm_sizeB k
      have i2 : ByteArray.size ⟨#[46, 100]⟩ ≤ 9223372036854775807 := by decide
      by_cases h8 : 78 ≤ k
      · have e3 : sizeI (k : Int) = 8 := by unfold sizeI wiB; rw [if_neg (by simp; omega), if_pos (by simp; omega)]
        (try simp (config := { maxSteps := 10000000 }) only [go_sem, seval, s_class_eq, s_kname_eq, s_hassuf_eq, h7, e1, e2, i1, i2, h8, e3]; repeat (simp (disch := omega) only [w64_d, ipos, ineg, dpos, dneg]; try simp (config := { maxSteps := 10000000 }) only [go_sem, seval, s_class_eq, s_kname_eq, s_hassuf_eq, h7, e1, e2, i1, i2, h8, e3]))
      · have e3 : sizeI (k : Int) = 4 := by unfold sizeI wiB; rw [if_pos (by simp; omega)]
        (try simp (config := { maxSteps := 10000000 }) only [go_sem, seval, s_class_eq, s_kname_eq, s_hassuf_eq, h7, e1, e2, i1, i2, h8, e3]; repeat (simp (disch := omega) only [w64_d, ipos, ineg, dpos, dneg]; try simp (config := { maxSteps := 10000000 }) only [go_sem, seval, s_class_eq, s_kname_eq, s_hassuf_eq, h7, e1, e2, i1, i2, h8, e3]))
    · have e3 : sizeI op = 0 := size_0 (by omega)
      (try simp (config := { maxSteps := 10000000 }) only [go_sem, seval, s_class_eq, s_kname_eq, s_hassuf_eq, h5, h6, h7, e3]; repeat (simp (disch := omega) only [w64_d, ipos, ineg, dpos, dneg]; try simp (config := { maxSteps := 10000000 }) only [go_sem, seval, s_class_eq, s_kname_eq, s_hassuf_eq, h5, h6, h7, e3]))
  · simp at h
end
end Go.Proofs.YtcbhelkafelofaaGreat
