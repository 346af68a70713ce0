/- Layer 17: a port as a thing by itself: what its functions do to it. -/
import Derived.Test.YtfddaaplnnlfoaaU7
namespace Go.Proofs.Ytfddaaplnnlfoaa
open Go.Am
set_option linter.unusedSimpArgs false
set_option linter.unusedVariables false
noncomputable section

def enc8 (x : Int) : List Sc := [.k .u8 x]
def dc8 : List Sc → Option Int
  | [.k .u8 x] => some x
  | _ => none
theorem dc8_e (x : Int) : dc8 (enc8 x) = some x := rfl
theorem dc8_d (cs : List Sc) (x : Int) (h : dc8 cs = some x) : cs = enc8 x := by unfold dc8 at h; split at h <;> simp_all [enc8]
theorem enc8_l (x : Int) : (enc8 x).length = 1 := rfl
theorem e8_len (A : List Int) : (A.flatMap enc8).length = A.length := by rw [fm_len enc8_l, Nat.mul_one]
theorem e8_one (A : List Int) : (A.flatMap enc8).all Sc.one = true := by
  rw [List.all_flatMap]; exact List.all_eq_true.2 fun _ _ => rfl
theorem e8_bel (A : List Int) (n : Nat) : (A.flatMap enc8).all (Sc.bel n) = true := by
  rw [List.all_flatMap]; exact List.all_eq_true.2 fun _ _ => rfl
def sid : Sc → Option Nat
  | .sl i _ _ _ => some i
  | _ => none
/-- bytes in a row of their own -/
def bsx (K : AH) (x : Sc) (A : List Int) : Prop := (x = .nils ∧ A = []) ∨ ∃ i, x = .sl i 0 A.length A.length ∧ hg K i = .vec 1 (A.flatMap enc8)
theorem bsx_len {K : AH} {x : Sc} {A : List Int} (h : bsx K x A) : lenS x = some A.length := by
  rcases h with ⟨rfl, rfl⟩ | ⟨i, rfl, _⟩ <;> rfl
theorem bsx_lt {K : AH} {x : Sc} {A : List Int} {i : Nat} (h : bsx K x A) (hi : sid x = some i) : i < K.length ∧ hg K i = .vec 1 (A.flatMap enc8) := by
  rcases h with ⟨rfl, rfl⟩ | ⟨j, rfl, hj⟩
  · simp [sid] at hi
  · simp only [sid, Option.some.injEq] at hi
    subst hi
    exact ⟨hg_lt (by rw [hj]; rfl), hj⟩
theorem bsx_keep {K K' : AH} {x : Sc} {A : List Int} (h : bsx K x A) (hk : ∀ i, sid x = some i → hg K' i = hg K i) : bsx K' x A := by
  rcases h with ⟨rfl, rfl⟩ | ⟨j, rfl, hj⟩
  · exact .inl ⟨rfl, rfl⟩
  · exact .inr ⟨j, rfl, by rw [hk j rfl, hj]⟩
theorem bsx_slD {K : AH} {x : Sc} {A : List Int} (h : bsx K x A) : slD 1 dc8 K x = some A := by
  rcases h with ⟨rfl, rfl⟩ | ⟨j, rfl, hj⟩
  · rfl
  · exact slD_of enc8_l dc8_e (by rw [hj]; simp only [AObj.row, e8_len]) rfl (by rw [hj]; rfl)
theorem hg_app {K X : AH} {k : Nat} (h : k < K.length) : hg (K ++ X) k = hg K k := hg_lt' h
theorem push_ok {K : AH} {x : Sc} {A : List Int} (b : Int) (h : bsx K x A) (hs : A.length ≤ 1000000) :
    ∃ x' K', pushS K x (.k .u8 b) = some (x', K') ∧ bsx K' x' (A ++ [b]) ∧ K.length ≤ K'.length ∧ (∀ k, k < K.length → sid x ≠ some k → hg K' k = hg K k) ∧ (∀ i, sid x' = some i → sid x = some i ∨ K.length ≤ i) := by
  rcases h with ⟨rfl, rfl⟩ | ⟨i, rfl, hi⟩
  · refine ⟨_, _, rfl, .inr ⟨K.length + 1, rfl, ?_⟩, by simp, fun k hk _ => hg_app hk, fun i hi => .inr ?_⟩
    · simp [hg, List.getD_eq_getElem?_getD, enc8]
    · simp only [sid, Option.some.injEq] at hi; omega
  · have li : i < K.length := hg_lt (by rw [hi]; rfl)
    refine ⟨.sl i 0 (A.length + 1) (A.length + 1), K.set i (.vec 1 (A.flatMap enc8 ++ [.k .u8 b])), ?_, .inr ⟨i, by simp, ?_⟩, by simp, fun k hk hne => ?_, fun j hj => .inl hj⟩
    · simp only [pushS, hi, e8_len]
      rw [if_pos ⟨trivial, trivial, hs⟩]
    · rw [hg_set_same li, fm_app]; rfl
    · exact hg_set_ne' fun e => hne (by rw [e]; rfl)
theorem clone_ok {K : AH} {x : Sc} {A : List Int} (h : bsx K x A) (hs : A.length ≤ 1000000) :
    cloneS K x = some (.sl K.length 0 A.length A.length, K ++ [.vec 1 (A.flatMap enc8)]) := by
  rcases h with ⟨rfl, rfl⟩ | ⟨i, rfl, hi⟩
  · rfl
  · have e : (A.flatMap enc8).take A.length = A.flatMap enc8 := List.take_of_length_le (by rw [e8_len]; exact Nat.le_refl _)
    simp only [cloneS, hi, AObj.row, AObj.cells, AObj.scs, e8_len, List.drop_zero, e]
    rw [if_pos ⟨trivial, by omega, e8_one A, hs⟩]
theorem clone_tl {K : AH} {i : Nat} {a : Int} {A : List Int} (hi : hg K i = .vec 1 ((a :: A).flatMap enc8)) (hs : A.length ≤ 1000000) :
    cloneS K (.sl i 1 (A.length + 1) A.length) = some (.sl K.length 0 A.length A.length, K ++ [.vec 1 (A.flatMap enc8)]) := by
  have e : (A.flatMap enc8).take A.length = A.flatMap enc8 := List.take_of_length_le (by rw [e8_len]; exact Nat.le_refl _)
  have e2 : ((a :: A).flatMap enc8).drop 1 = A.flatMap enc8 := rfl
  simp only [cloneS, hi, AObj.row, AObj.cells, AObj.scs, e8_len, e2, e, List.length_cons]
  rw [if_pos ⟨trivial, by omega, e8_one A, hs⟩]

/-- a port by itself -/
structure Pt where
  e : Int
  l : Int
  m : Int
  s : Int
  dl : Int
  dm : Int
  ff : Bool
  lo : Bool
  em : Bool
  A : List Int
  B : List Int
def poOf (t : Pt) (x y : Sc) : Po := ⟨t.e, t.l, t.m, t.s, t.dl, t.dm, t.ff, t.lo, t.em, x, y⟩
structure PI (K : AH) (h : Nat) (t : Pt) (x y : Sc) : Prop where
  hp : hg K h = .own (poC (poOf t x y))
  hx : bsx K x t.A
  hy : bsx K y t.B
  ne : ∀ i, sid x = some i → sid y = some i → False
structure Kp (K K' : AH) (h : Nat) (x y x' y' : Sc) : Prop where
  len : K.length ≤ K'.length
  keep : ∀ k, k < K.length → k ≠ h → sid x ≠ some k → sid y ≠ some k → hg K' k = hg K k
  fx : ∀ i, sid x' = some i → sid x = some i ∨ K.length ≤ i
  fy : ∀ i, sid y' = some i → sid y = some i ∨ K.length ≤ i
theorem Kp.rfl' {K : AH} {h : Nat} {x y : Sc} : Kp K K h x y x y := ⟨Nat.le_refl _, fun _ _ _ _ _ => rfl, fun _ h => .inl h, fun _ h => .inl h⟩
theorem PI.lt {K : AH} {h : Nat} {t : Pt} {x y : Sc} (hP : PI K h t x y) : h < K.length := hg_lt (by rw [hP.hp]; rfl)
theorem PI.nx {K : AH} {h : Nat} {t : Pt} {x y : Sc} (hP : PI K h t x y) {i : Nat} (hi : sid x = some i) : i ≠ h := fun e => by
  have := (bsx_lt hP.hx hi).2; rw [e, hP.hp] at this; simp at this
theorem PI.ny {K : AH} {h : Nat} {t : Pt} {x y : Sc} (hP : PI K h t x y) {i : Nat} (hi : sid y = some i) : i ≠ h := fun e => by
  have := (bsx_lt hP.hy hi).2; rw [e, hP.hp] at this; simp at this
theorem PI.po {K : AH} {h : Nat} {t : Pt} {x y : Sc} (hP : PI K h t x y) : poD (hg K h) = some (poOf t x y) := by rw [hP.hp]; rfl
/-- flags are set -/
theorem pi_set {K : AH} {h : Nat} {t : Pt} {x y : Sc} (hP : PI K h t x y) (t' : Pt) (hA : t'.A = t.A) (hB : t'.B = t.B) : PI (K.set h (.own (poC (poOf t' x y)))) h t' x y ∧ Kp K (K.set h (.own (poC (poOf t' x y)))) h x y x y := by
  refine ⟨⟨hg_set_same hP.lt, ?_, ?_, hP.ne⟩, by simp, fun k _ hk _ _ => hg_set_ne' (Ne.symm hk), fun _ h => .inl h, fun _ h => .inl h⟩
  · rw [hA]; exact bsx_keep hP.hx fun i hi => hg_set_ne' (Ne.symm (hP.nx hi))
  · rw [hB]; exact bsx_keep hP.hy fun i hi => hg_set_ne' (Ne.symm (hP.ny hi))
/-- the queue is another one -/
theorem pi_x {K K1 : AH} {h : Nat} {t : Pt} {x y x' : Sc} (hP : PI K h t x y) (t' : Pt) (hB : t'.B = t.B) (hx' : bsx K1 x' t'.A) (hl : K.length ≤ K1.length)
    (hk : ∀ k, k < K.length → sid x ≠ some k → hg K1 k = hg K k) (hf : ∀ i, sid x' = some i → sid x = some i ∨ K.length ≤ i) :
    PI (K1.set h (.own (poC (poOf t' x' y)))) h t' x' y ∧ Kp K (K1.set h (.own (poC (poOf t' x' y)))) h x y x' y := by
  have lt := hP.lt
  have nx : ∀ i, sid x' = some i → i ≠ h := fun i hi => by
    rcases hf i hi with e | e
    · exact hP.nx e
    · omega
  refine ⟨⟨hg_set_same (by omega), ?_, ?_, fun i h1 h2 => ?_⟩, by simpa using hl, fun k hk1 hk2 hk3 _ => ?_, hf, fun _ h => .inl h⟩
  · exact bsx_keep hx' fun i hi => hg_set_ne' (Ne.symm (nx i hi))
  · rw [hB]
    refine bsx_keep hP.hy fun i hi => ?_
    rw [hg_set_ne' (Ne.symm (hP.ny hi))]
    exact hk i (bsx_lt hP.hy hi).1 fun e => hP.ne i e hi
  · rcases hf i h1 with e | e
    · exact hP.ne i e h2
    · have := (bsx_lt hP.hy h2).1; omega
  · rw [hg_set_ne' (Ne.symm hk2)]
    exact hk k hk1 hk3
/-- what went out is another row -/
theorem pi_y {K K1 : AH} {h : Nat} {t : Pt} {x y y' : Sc} (hP : PI K h t x y) (t' : Pt) (hA : t'.A = t.A) (hy' : bsx K1 y' t'.B) (hl : K.length ≤ K1.length)
    (hk : ∀ k, k < K.length → sid y ≠ some k → hg K1 k = hg K k) (hf : ∀ i, sid y' = some i → sid y = some i ∨ K.length ≤ i) :
    PI (K1.set h (.own (poC (poOf t' x y')))) h t' x y' ∧ Kp K (K1.set h (.own (poC (poOf t' x y')))) h x y x y' := by
  have lt := hP.lt
  have ny : ∀ i, sid y' = some i → i ≠ h := fun i hi => by
    rcases hf i hi with e | e
    · exact hP.ny e
    · omega
  refine ⟨⟨hg_set_same (by omega), ?_, ?_, fun i h1 h2 => ?_⟩, by simpa using hl, fun k hk1 hk2 _ hk3 => ?_, fun _ h => .inl h, hf⟩
  · rw [hA]
    refine bsx_keep hP.hx fun i hi => ?_
    rw [hg_set_ne' (Ne.symm (hP.nx hi))]
    exact hk i (bsx_lt hP.hx hi).1 fun e => hP.ne i hi e
  · exact bsx_keep hy' fun i hi => hg_set_ne' (Ne.symm (ny i hi))
  · rcases hf i h2 with e | e
    · exact hP.ne i h1 e
    · have := (bsx_lt hP.hx h1).1; omega
  · rw [hg_set_ne' (Ne.symm hk2)]
    exact hk k hk1 hk3
def roomP (t : Pt) : Nat := if t.ff = true then 16 else 1
def causeP (t : Pt) : Int := causeT (poOf t .nils .nils) t.A.length
theorem cause_eq {t : Pt} {x y : Sc} {n : Nat} (h : n = t.A.length) : causeT (poOf t x y) n = causeP t := by subst h; rfl
def comeP (t : Pt) (b : Int) : Pt × Bool := if roomP t ≤ t.A.length then ({ t with lo := true }, false) else ({ t with A := t.A ++ [b] }, true)
theorem come_ok {K : AH} {h : Nat} {t : Pt} {x y : Sc} (hP : PI K h t x y) (b : Int) (hs : t.A.length ≤ 1000000) :
    ∃ K' x', s_ucome [.c (.p h 0 0), .c (.k .u8 b)] K = some (.c (.b (comeP t b).2), K') ∧ PI K' h (comeP t b).1 x' y ∧ Kp K K' h x y x' y := by
  have hl := bsx_len hP.hx
  have er : roomT (poOf t x y) = (roomP t : Int) := by unfold roomT roomP poOf; split <;> rfl
  unfold comeP
  by_cases hr : roomP t ≤ t.A.length
  · have := pi_set hP { t with lo := true } rfl rfl
    rw [if_pos hr]
    refine ⟨_, x, ?_, this.1, this.2⟩
    simp only [s_ucome, hP.po]
    rw [show (poOf t x y).x = x from rfl, hl]
    simp only [er]
    rw [if_pos (by omega)]
    rfl
  · obtain ⟨x', K1, h1, h2, h3, h4, h5⟩ := push_ok b hP.hx hs
    have := pi_x hP { t with A := t.A ++ [b] } rfl h2 h3 h4 h5
    rw [if_neg hr]
    refine ⟨_, x', ?_, this.1, this.2⟩
    simp only [s_ucome, hP.po]
    rw [show (poOf t x y).x = x from rfl, hl]
    simp only [er]
    rw [if_neg (by omega), h1]
    rfl
def takeP (t : Pt) : Pt × Int := match t.A with
  | [] => (t, 0)
  | a :: A => ({ t with A := A }, a)
theorem take_ok {K : AH} {h : Nat} {t : Pt} {x y : Sc} (hP : PI K h t x y) (hs : t.A.length ≤ 1000000) :
    ∃ K' x', s_utake [.c (.p h 0 0)] K = some (.c (.k .u8 (takeP t).2), K') ∧ PI K' h (takeP t).1 x' y ∧ Kp K K' h x y x' y := by
  unfold takeP
  cases hA : t.A with
  | nil =>
    refine ⟨K, x, ?_, hP, Kp.rfl'⟩
    simp only [s_utake, hP.po]
    rw [show (poOf t x y).x = x from rfl]
    have := hP.hx
    rw [hA] at this
    rcases this with ⟨rfl, _⟩ | ⟨i, rfl, _⟩ <;> rfl
  | cons a A =>
    have hx := hP.hx
    rw [hA] at hx hs
    rcases hx with ⟨_, h0⟩ | ⟨i, hx, hi⟩
    · simp at h0
    · have hc := clone_tl hi (by simp at hs; omega)
      have lc : (K ++ [AObj.vec 1 (A.flatMap enc8)]).length = K.length + 1 := by simp
      have gn : hg (K ++ [AObj.vec 1 (A.flatMap enc8)]) K.length = .vec 1 (A.flatMap enc8) := by simp [hg, List.getD_eq_getElem?_getD]
      have := pi_x (K1 := K ++ [.vec 1 (A.flatMap enc8)]) (x' := .sl K.length 0 A.length A.length) hP { t with A := A } rfl (.inr ⟨_, rfl, gn⟩) (by omega) (fun k hk _ => hg_app hk)
        (fun j hj => .inr (by simp only [sid, Option.some.injEq] at hj; omega))
      refine ⟨_, _, ?_, this.1, this.2⟩
      simp only [s_utake, hP.po]
      rw [show (poOf t x y).x = x from rfl, hx]
      simp only [List.length_cons, hi, AObj.cells, AObj.scs]
      rw [show (a :: A).flatMap enc8 = .k .u8 a :: A.flatMap enc8 from rfl]
      simp only [hc]
      rfl
def toldP (t : Pt) : Pt × Int := (if causeP t = 2 then { t with em := false } else t, if t.ff = true then or8 (causeP t) 192 else causeP t)
theorem told_ok {K : AH} {h : Nat} {t : Pt} {x y : Sc} (hP : PI K h t x y) :
    ∃ K', s_utold [.c (.p h 0 0)] K = some (.c (.k .u8 (toldP t).2), K') ∧ PI K' h (toldP t).1 x y ∧ Kp K K' h x y x y := by
  have hl := bsx_len hP.hx
  have e : s_utold [.c (.p h 0 0)] K = some (.c (.k .u8 (toldP t).2), if causeP t = 2 then K.set h (.own (poC (poOf { t with em := false } x y))) else K) := by
    simp only [s_utold, hP.po]
    rw [show (poOf t x y).x = x from rfl, hl]
    simp only [cause_eq rfl]
    rfl
  rw [e]
  unfold toldP
  by_cases h2 : causeP t = 2
  · rw [if_pos h2, if_pos h2]
    have := pi_set hP { t with em := false } rfl rfl
    exact ⟨_, rfl, this.1, this.2⟩
  · rw [if_neg h2, if_neg h2]
    exact ⟨_, rfl, hP, Kp.rfl'⟩
def stateP (t : Pt) : Pt × Int := ({ t with lo := false }, stateT t.lo t.A.length)
theorem state_ok {K : AH} {h : Nat} {t : Pt} {x y : Sc} (hP : PI K h t x y) :
    ∃ K', s_ustate [.c (.p h 0 0)] K = some (.c (.k .u8 (stateP t).2), K') ∧ PI K' h (stateP t).1 x y ∧ Kp K K' h x y x y := by
  have hl := bsx_len hP.hx
  have e : s_ustate [.c (.p h 0 0)] K = some (.c (.k .u8 (stateP t).2), if t.lo = true then K.set h (.own (poC (poOf { t with lo := false } x y))) else K) := by
    simp only [s_ustate, hP.po]
    rw [show (poOf t x y).x = x from rfl, hl]
    rfl
  rw [e]
  by_cases h2 : t.lo = true
  · rw [if_pos h2]
    have := pi_set hP { t with lo := false } rfl rfl
    exact ⟨_, rfl, this.1, this.2⟩
  · rw [if_neg h2]
    have : (stateP t).1 = t := by unfold stateP; simp at h2; cases t; simp_all
    rw [this]
    exact ⟨_, rfl, hP, Kp.rfl'⟩
/-- what is read -/
def readP (t : Pt) (off : BitVec 64) : Pt × Int × Bool :=
  if 7#64 < off then (t, 0, false)
  else if off = 0#64 then (if an8 t.l 128 = 0 then ((takeP t).1, (takeP t).2, true) else (t, t.dl, true))
  else if off = 1#64 then (t, (if an8 t.l 128 = 0 then t.e else t.dm), true)
  else if off = 2#64 then ((toldP t).1, (toldP t).2, true)
  else if off = 3#64 then (t, t.l, true)
  else if off = 4#64 then (t, t.m, true)
  else if off = 5#64 then ((stateP t).1, (stateP t).2, true)
  else if off = 6#64 then (t, modemT t.m, true)
  else (t, t.s, true)
theorem read_ok {K : AH} {h : Nat} {t : Pt} {x y : Sc} (hP : PI K h t x y) (off : BitVec 64) (hs : t.A.length ≤ 1000000) :
    ∃ K' x', s_uread [.c (.p h 0 0), .c (.u off)] K = some (.t [.c (.k .u8 (readP t off).2.1), .c (.b (readP t off).2.2)], K') ∧ PI K' h (readP t off).1 x' y ∧ Kp K K' h x y x' y := by
  unfold readP
  simp only [s_uread]
  split
  · exact ⟨K, x, rfl, hP, Kp.rfl'⟩
  rw [hP.po]
  simp only
  split
  · rw [show (poOf t x y).l = t.l from rfl]
    split
    · obtain ⟨K', x', h1, h2, h3⟩ := take_ok hP hs
      rw [h1]
      exact ⟨K', x', rfl, h2, h3⟩
    · exact ⟨K, x, rfl, hP, Kp.rfl'⟩
  split
  · exact ⟨K, x, rfl, hP, Kp.rfl'⟩
  split
  · obtain ⟨K', h1, h2, h3⟩ := told_ok hP
    rw [h1]
    exact ⟨K', x, rfl, h2, h3⟩
  split
  · exact ⟨K, x, rfl, hP, Kp.rfl'⟩
  split
  · exact ⟨K, x, rfl, hP, Kp.rfl'⟩
  split
  · obtain ⟨K', h1, h2, h3⟩ := state_ok hP
    rw [h1]
    exact ⟨K', x, rfl, h2, h3⟩
  split
  · exact ⟨K, x, rfl, hP, Kp.rfl'⟩
  · exact ⟨K, x, rfl, hP, Kp.rfl'⟩
def sendP (t : Pt) (b : Int) : Pt := if an8 t.m 16 = 0 then { t with B := t.B ++ [b], em := true } else { (comeP t b).1 with em := true }
theorem send_ok {K : AH} {h : Nat} {t : Pt} {x y : Sc} (hP : PI K h t x y) (b : Int) (hs : t.A.length ≤ 1000000) (hs2 : t.B.length ≤ 1000000) :
    ∃ K' x' y' w, s_usend [.c (.p h 0 0), .c (.k .u8 b)] K = some (w, K') ∧ PI K' h (sendP t b) x' y' ∧ Kp K K' h x y x' y' := by
  unfold sendP
  by_cases hm : an8 t.m 16 = 0
  · rw [if_pos hm]
    obtain ⟨y', K1, h1, h2, h3, h4, h5⟩ := push_ok b hP.hy hs2
    have := pi_y hP { t with B := t.B ++ [b], em := true } rfl h2 h3 h4 h5
    refine ⟨_, x, y', .t [], ?_, this.1, this.2⟩
    simp only [s_usend, hP.po]
    rw [show (poOf t x y).m = t.m from rfl, if_pos hm, show (poOf t x y).y = y from rfl, h1]
    rfl
  · rw [if_neg hm]
    obtain ⟨K1, x', h1, h2, h3⟩ := come_ok hP b hs
    obtain ⟨a1, a2⟩ := pi_set h2 { (comeP t b).1 with em := true } rfl rfl
    refine ⟨_, x', y, .t [], ?_, a1, ?_⟩
    · simp only [s_usend, hP.po]
      rw [show (poOf t x y).m = t.m from rfl, if_neg hm, h1]
      simp only [h2.po]
      rfl
    · refine ⟨Nat.le_trans h3.len a2.len, fun k k1 k2 k3 k4 => ?_, h3.fx, h3.fy⟩
      rw [hg_set_ne' (Ne.symm k2)]
      exact h3.keep k k1 k2 k3 k4
def queueP (t : Pt) (b : Int) : Pt :=
  if (decide (¬ an8 b 1 = 0) == t.ff) = true ∧ an8 b 2 = 0 then { t with ff := decide (¬ an8 b 1 = 0) } else { t with ff := decide (¬ an8 b 1 = 0), A := [] }
theorem queue_ok {K : AH} {h : Nat} {t : Pt} {x y : Sc} (hP : PI K h t x y) (b : Int) :
    ∃ K' x' w, s_uqueue [.c (.p h 0 0), .c (.k .u8 b)] K = some (w, K') ∧ PI K' h (queueP t b) x' y ∧ Kp K K' h x y x' y := by
  unfold queueP
  simp only [s_uqueue, hP.po]
  rw [show (poOf t x y).ff = t.ff from rfl]
  split
  · have := pi_set hP { t with ff := decide (¬ an8 b 1 = 0) } rfl rfl
    exact ⟨_, x, _, rfl, this.1, this.2⟩
  · have := pi_x (K1 := K) (x' := .nils) hP { t with ff := decide (¬ an8 b 1 = 0), A := [] } rfl (.inl ⟨rfl, rfl⟩) (Nat.le_refl _) (fun _ _ _ => rfl) (fun i hi => by simp [sid] at hi)
    exact ⟨_, .nils, _, rfl, this.1, this.2⟩
def wrT (t : Pt) (off : BitVec 64) (b : Int) : Pt :=
  if off = 0#64 then { t with dl := b }
  else if off = 1#64 then (if an8 t.l 128 = 0 then { t with em := t.em || (decide (¬ an8 b 2 = 0) && decide (an8 t.e 2 = 0)), e := an8 b 15 } else { t with dm := b })
  else if off = 3#64 then { t with l := b }
  else if off = 4#64 then { t with m := an8 b 31 }
  else { t with s := b }
theorem wr_of (t : Pt) (x y : Sc) (off : BitVec 64) (b : Int) : wrP (poOf t x y) off b = poOf (wrT t off b) x y ∧ (wrT t off b).A = t.A ∧ (wrT t off b).B = t.B := by
  unfold wrP wrT
  split
  · exact ⟨rfl, rfl, rfl⟩
  split
  · rw [show (poOf t x y).l = t.l from rfl]
    split <;> exact ⟨rfl, rfl, rfl⟩
  split
  · exact ⟨rfl, rfl, rfl⟩
  split <;> exact ⟨rfl, rfl, rfl⟩
/-- what is written -/
def writeP (t : Pt) (off : BitVec 64) (b : Int) : Pt × Bool :=
  if 7#64 < off then (t, false)
  else if off = 0#64 ∧ an8 t.l 128 = 0 then (sendP t b, true)
  else if off = 2#64 then (queueP t b, true)
  else if off = 5#64 ∨ off = 6#64 then (t, true)
  else (wrT t off b, true)
theorem write_ok {K : AH} {h : Nat} {t : Pt} {x y : Sc} (hP : PI K h t x y) (off : BitVec 64) (b : Int) (hs : t.A.length ≤ 1000000) (hs2 : t.B.length ≤ 1000000) :
    ∃ K' x' y', s_uwrite [.c (.p h 0 0), .c (.u off), .c (.k .u8 b)] K = some (.c (.b (writeP t off b).2), K') ∧ PI K' h (writeP t off b).1 x' y' ∧ Kp K K' h x y x' y' := by
  unfold writeP
  simp only [s_uwrite]
  split
  · exact ⟨K, x, y, rfl, hP, Kp.rfl'⟩
  rw [hP.po]
  simp only
  rw [show (poOf t x y).l = t.l from rfl]
  split
  · obtain ⟨K', x', y', w, h1, h2, h3⟩ := send_ok hP b hs hs2
    rw [h1]
    exact ⟨K', x', y', rfl, h2, h3⟩
  split
  · obtain ⟨K', x', w, h1, h2, h3⟩ := queue_ok hP b
    rw [h1]
    exact ⟨K', x', y, rfl, h2, h3⟩
  split
  · exact ⟨K, x, y, rfl, hP, Kp.rfl'⟩
  · obtain ⟨w1, w2, w3⟩ := wr_of t x y off b
    have := pi_set hP (wrT t off b) w2 w3
    rw [w1]
    exact ⟨_, x, y, rfl, this.1, this.2⟩
def inputP (t : Pt) (b : Int) : Pt × Bool := if an8 t.m 16 = 0 then comeP t b else (t, false)
theorem input_ok {K : AH} {h : Nat} {t : Pt} {x y : Sc} (hP : PI K h t x y) (b : Int) (hs : t.A.length ≤ 1000000) :
    ∃ K' x', s_uinput [.c (.p h 0 0), .c (.k .u8 b)] K = some (.c (.b (inputP t b).2), K') ∧ PI K' h (inputP t b).1 x' y ∧ Kp K K' h x y x' y := by
  unfold inputP
  simp only [s_uinput, hP.po]
  rw [show (poOf t x y).m = t.m from rfl]
  split
  · exact come_ok hP b hs
  · exact ⟨K, x, rfl, hP, Kp.rfl'⟩
theorem line_ok {K : AH} {h : Nat} {t : Pt} {x y : Sc} (hP : PI K h t x y) : s_uline [.c (.p h 0 0)] K = some (.c (.b (!decide (causeP t = 1)))) := by
  rw [s_uline_eq hP.po (bsx_len hP.hx)]; rfl
theorem waiting_ok {K : AH} {h : Nat} {t : Pt} {x y : Sc} (hP : PI K h t x y) (hs : t.A.length ≤ 1000000) : s_uwaiting [.c (.p h 0 0)] K = some (.c (.sl K.length 0 t.A.length t.A.length), K ++ [.vec 1 (t.A.flatMap enc8)]) := by
  simp only [s_uwaiting, hP.po]
  rw [show (poOf t x y).x = x from rfl, clone_ok hP.hx hs]; rfl
theorem out_ok {K : AH} {h : Nat} {t : Pt} {x y : Sc} (hP : PI K h t x y) (hs : t.B.length ≤ 1000000) : s_uout [.c (.p h 0 0)] K = some (.c (.sl K.length 0 t.B.length t.B.length), K ++ [.vec 1 (t.B.flatMap enc8)]) := by
  simp only [s_uout, hP.po]
  rw [show (poOf t x y).y = y from rfl, clone_ok hP.hy hs]; rfl
/-- other objects are made -/
theorem pi_app {K X : AH} {h : Nat} {t : Pt} {x y : Sc} (hP : PI K h t x y) : PI (K ++ X) h t x y :=
  ⟨by rw [hg_app hP.lt]; exact hP.hp, bsx_keep hP.hx fun i hi => hg_app (bsx_lt hP.hx hi).1, bsx_keep hP.hy fun i hi => hg_app (bsx_lt hP.hy hi).1, hP.ne⟩
def pt0 : Pt := ⟨0, 0, 0, 0, 0, 0, false, false, false, [], []⟩
theorem pi_new (K : AH) : PI (K ++ [.own (poC po0)]) K.length pt0 .nils .nils := by
  refine ⟨?_, .inl ⟨rfl, rfl⟩, .inl ⟨rfl, rfl⟩, fun i h => by simp [sid] at h⟩
  simp [hg, List.getD_eq_getElem?_getD]; rfl
end
end Go.Proofs.Ytfddaaplnnlfoaa
