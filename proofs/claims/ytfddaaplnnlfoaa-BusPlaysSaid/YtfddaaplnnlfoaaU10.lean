/- Layer 17: the law UartKeeps. -/
import Derived.Test.YtfddaaplnnlfoaaU9
namespace Go.Proofs.Ytfddaaplnnlfoaa
open Go.Am
set_option linter.unusedSimpArgs false
set_option linter.unusedVariables false
noncomputable section

/-- a port behind what was there -/
structure InK (H K : AH) (t : Pt) (x y : Sc) : Prop where
  pi : PI K H.length t x y
  keep : ∀ k, k < H.length → hg K k = hg H k
  nx : ∀ i, sid x = some i → H.length < i
  ny : ∀ i, sid y = some i → H.length < i
theorem InK.new (H : AH) : InK H (H ++ [.own (poC po0)]) pt0 .nils .nils :=
  ⟨pi_new H, fun k hk => hg_app hk, fun i h => by simp [sid] at h, fun i h => by simp [sid] at h⟩
theorem InK.step {H K K' : AH} {t t' : Pt} {x y x' y' : Sc} (h : InK H K t x y) (hP : PI K' H.length t' x' y') (hk : Kp K K' H.length x y x' y') : InK H K' t' x' y' := by
  have lt := h.pi.lt
  refine ⟨hP, fun k hk1 => ?_, fun i hi => ?_, fun i hi => ?_⟩
  · rw [hk.keep k (by omega) (by omega) (fun e => by have := h.nx k e; omega) (fun e => by have := h.ny k e; omega)]
    exact h.keep k hk1
  · rcases hk.fx i hi with e | e
    · exact h.nx i e
    · omega
  · rcases hk.fy i hi with e | e
    · exact h.ny i e
    · omega
theorem InK.app {H K X : AH} {t : Pt} {x y : Sc} (h : InK H K t x y) : InK H (K ++ X) t x y :=
  ⟨pi_app h.pi, fun k hk => by rw [hg_app (by have := h.pi.lt; omega)]; exact h.keep k hk, h.nx, h.ny⟩
theorem InK.sub {H K : AH} {t : Pt} {x y : Sc} (h : InK H K t x y) : subH H K := subH_of (by have := h.pi.lt; omega) h.keep
def ptQ : Pt := { pt0 with ff := true }
def tI (L : List Int) (i : Nat) : Pt := { ptQ with A := L.take (min i 16), lo := decide (16 < i) }
def tO (L M : List Int) (j : Nat) : Pt := { tI L L.length with B := M.take j, em := decide (0 < j) }
def tR (L M : List Int) (i : Nat) : Pt := { tO L M M.length with lo := false, A := (L.take 16).drop i }
theorem keeps_1 : writeP pt0 2#64 1 = (ptQ, true) := rfl
theorem tI_0 (L : List Int) : tI L 0 = ptQ := by unfold tI; simp [ptQ, pt0]
theorem keeps_in {L : List Int} {i : Nat} {b : Int} (hb : L[i]? = some b) : inputP (tI L i) b = (tI L (i + 1), decide (i < 16)) := by
  have hi : i < L.length := by
    rcases Nat.lt_or_ge i L.length with h | h
    · exact h
    · rw [List.getElem?_eq_none h] at hb; simp at hb
  have e : inputP (tI L i) b = comeP (tI L i) b := if_pos (show an8 (tI L i).m 16 = 0 from (by decide : an8 0 16 = 0))
  rw [e]
  have r : roomP (tI L i) = 16 := rfl
  have l : (tI L i).A.length = min i 16 := by simp [tI]; omega
  unfold comeP
  rw [r, l]
  by_cases h : i < 16
  · rw [if_neg (by omega)]
    have d1 : decide (16 < i) = false := decide_eq_false (by omega)
    have d2 : decide (16 < i + 1) = false := decide_eq_false (by omega)
    have m1 : min i 16 = i := by omega
    have m2 : min (i + 1) 16 = i + 1 := by omega
    simp only [tI, d1, d2, m1, m2, List.take_add_one, hb, Option.toList_some, decide_eq_true h]
  · rw [if_pos (by omega)]
    have d2 : decide (16 < i + 1) = true := decide_eq_true (by omega)
    have m1 : min i 16 = 16 := by omega
    have m2 : min (i + 1) 16 = 16 := by omega
    simp only [tI, d2, m1, m2, decide_eq_false h]
theorem tO_0 (L M : List Int) : tO L M 0 = tI L L.length := by unfold tO tI; simp [ptQ, pt0]
theorem keeps_out {L M : List Int} {j : Nat} {b : Int} (hb : M[j]? = some b) : writeP (tO L M j) 0#64 b = (tO L M (j + 1), true) := by
  have e : writeP (tO L M j) 0#64 b = (sendP (tO L M j) b, true) := by
    unfold writeP
    rw [if_neg (by decide), if_pos ⟨rfl, (by decide : an8 0 128 = 0)⟩]
  have e2 : sendP (tO L M j) b = { tO L M j with B := (tO L M j).B ++ [b], em := true } := if_pos (show an8 (tO L M j).m 16 = 0 from (by decide : an8 0 16 = 0))
  rw [e, e2]
  simp only [tO, List.take_add_one, hb, Option.toList_some, decide_eq_true (Nat.succ_pos j)]
theorem keeps_5 (L M : List Int) : readP (tO L M M.length) 5#64 = (tR L M 0, stateT (decide (16 < L.length)) (L.take 16).length, true) := by
  have e : readP (tO L M M.length) 5#64 = ((stateP (tO L M M.length)).1, (stateP (tO L M M.length)).2, true) := rfl
  rw [e]
  have m : L.take (min L.length 16) = L.take 16 := by
    rcases Nat.le_total L.length 16 with h | h
    · rw [Nat.min_eq_left h, List.take_of_length_le (Nat.le_refl _), List.take_of_length_le h]
    · rw [Nat.min_eq_right h]
  simp only [stateP, tO, tI, tR, m, List.drop_zero]
theorem keeps_bit (q : Bool) (n : Nat) : (an8 (stateT q n) 2 = 2) = (q = true) := by
  unfold stateT
  by_cases h : 0 < n
  · rw [if_pos h]; cases q <;> decide
  · rw [if_neg h]; cases q <;> decide
theorem keeps_r {L M : List Int} {i : Nat} {b : Int} (hb : L[i]? = some b) (hi : i < 16) : readP (tR L M i) 0#64 = (tR L M (i + 1), b, true) := by
  have e : readP (tR L M i) 0#64 = ((takeP (tR L M i)).1, (takeP (tR L M i)).2, true) := by
    unfold readP
    rw [if_neg (by decide), if_pos rfl, if_pos (show an8 (tR L M i).l 128 = 0 from (by decide : an8 0 128 = 0))]
  have hA : (tR L M i).A = b :: (L.take 16).drop (i + 1) := by
    have : (L.take 16)[i]? = some b := by rw [List.getElem?_take_of_lt hi]; exact hb
    obtain ⟨h1, h2⟩ := List.getElem?_eq_some_iff.1 this
    show (L.take 16).drop i = _
    rw [List.drop_eq_getElem_cons h1, h2]
  rw [e]
  unfold takeP
  rw [hA]
  rfl
theorem slD_keep {α : Type} {w : Nat} {dc : List Sc → Option α} {H K : AH} {y : Sc} {M : List α} (h : slD w dc H y = some M) (hk : ∀ k, k < H.length → hg K k = hg H k) (hb : y.bel H.length = true) : slD w dc K y = some M := by
  unfold slD at h ⊢
  split at h
  · exact h
  · rename_i id v n
    have lid : id < H.length := by simpa [Sc.bel] using hb
    simp only [hk id lid]
    exact h
  · simp at h
theorem drop_16 (L : List Int) : (L.take 16).drop (min L.length 16) = [] := by
  apply List.drop_of_length_le; simp; omega
def s_ukeeps (args : List AV) (H : AH) : Option AV :=
  match args with
  | [.c x, .c y] =>
    match slD 1 dc8 H x, slD 1 dc8 H y with
    | some L, some M => if L.length ≤ 9223372036854775807 ∧ M.length ≤ 9223372036854775807 then some (.c (.b true)) else none
    | _, _ => none
  | _ => none
set_option maxHeartbeats 4000000 in
end
end Go.Proofs.Ytfddaaplnnlfoaa
