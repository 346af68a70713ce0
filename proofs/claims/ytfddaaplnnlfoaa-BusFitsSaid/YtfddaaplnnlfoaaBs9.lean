/- Layer 18: a byte that comes in: the law BusCalls. -/
import Derived.Test.YtfddaaplnnlfoaaBs8
namespace Go.Proofs.Ytfddaaplnnlfoaa
open Go.Am
set_option linter.unusedSimpArgs false
set_option linter.unusedVariables false
noncomputable section

section
variable {p : List Int} {w q s : BitVec 32} {e : List (BitVec 32)} {l : List Int} {i : Nat} {v : BitVec 64}
theorem plW1 : plW ⟨8, p, w, q, s, e, l⟩ ⟨1, i⟩ v = ⟨8, p.set i ((v &&& 7#64).toNat : Int), w, q, s, e, l⟩ := by simp [plW]
theorem plW3 : plW ⟨8, p, w, q, s, e, l⟩ ⟨3, i⟩ v = ⟨8, p, w, q, s, e.set i (v.setWidth 32 &&& ~~~1#32), l⟩ := by simp [plW]
theorem plW4 : plW ⟨8, p, w, q, s, e, l⟩ ⟨4, i⟩ v = ⟨8, p, w, q, s, e, l.set i ((v &&& 7#64).toNat : Int)⟩ := by simp [plW]
end
variable (h P L : Fin 8) (b : Int)
def pw8 (P : Fin 8) : BitVec 64 := BitVec.ofNat 64 P.val
def t4 (b : Int) : Pt := { pt0 with A := [b] }
def t5 (b : Int) : Pt := { pt0 with e := 1, A := [b] }
def t7 : Pt := { pt0 with e := 1 }
def x1 (P : Fin 8) : Bx := ⟨bb8 ⟨8, pP (P.val : Int), 0#32, 0#32, 0#32, List.replicate 16 0#32, List.replicate 16 0⟩, pt0⟩
def x2 (h P : Fin 8) : Bx := ⟨bb8 ⟨8, pP (P.val : Int), 0#32, 0#32, 0#32, eC (2 * h.val), List.replicate 16 0⟩, pt0⟩
def x3 (h P L : Fin 8) : Bx := ⟨bb8 (kk (P.val : Int) (L.val : Int) (2 * h.val) 0#32 0#32 0#32), pt0⟩
def x4 (h P L : Fin 8) (b : Int) : Bx := ⟨bb8 (kk (P.val : Int) (L.val : Int) (2 * h.val) 0#32 0#32 0#32), t4 b⟩
def x5 (h P L : Fin 8) (b : Int) : Bx := ⟨bb8 (kk (P.val : Int) (L.val : Int) (2 * h.val) 1024#32 1024#32 0#32), t5 b⟩
def x6 (h P L : Fin 8) (b : Int) : Bx := ⟨bb8 (kk (P.val : Int) (L.val : Int) (2 * h.val) 1024#32 (if 0 < (P.val : Int) then 0#32 else 1024#32) (if 0 < (P.val : Int) then 1024#32 else 0#32)), t5 b⟩
def x7 (h P L : Fin 8) : Bx := ⟨bb8 (kk (P.val : Int) (L.val : Int) (2 * h.val) 0#32 (if 0 < (P.val : Int) then 0#32 else 1024#32) (if 0 < (P.val : Int) then 1024#32 else 0#32)), t7⟩
def x8 (h P L : Fin 8) : Bx := ⟨bb8 (kk (P.val : Int) (L.val : Int) (2 * h.val) 0#32 (if 0 < (P.val : Int) then 0#32 else 1024#32) 0#32), t7⟩
theorem cp0 : (!decide (causeP pt0 = 1)) = false := by decide +kernel
theorem cp7 : (!decide (causeP t7 = 1)) = false := by decide +kernel
theorem a04 : an8 0 4 = 0 := by decide +kernel
theorem a01 : an8 0 1 = 0 := by decide +kernel
theorem a02 : an8 0 2 = 0 := by decide +kernel
theorem a016 : an8 0 16 = 0 := by decide +kernel
theorem a14 : an8 1 4 = 0 := by decide +kernel
theorem a11 : an8 1 1 = 1 := by decide +kernel
theorem a12 : an8 1 2 = 0 := by decide +kernel
theorem a115 : an8 1 15 = 1 := by decide +kernel
theorem a0128 : an8 0 128 = 0 := by decide +kernel
theorem cp4 : (!decide (causeP (t4 b) = 1)) = false := by simp [causeP, causeT, poOf, t4, pt0, a04, a01, a02]
theorem cp5 : (!decide (causeP (t5 b) = 1)) = true := by simp [causeP, causeT, poOf, t5, pt0, a14, a11]
theorem in4 : (inputP pt0 b).1 = t4 b := by simp [inputP, comeP, roomP, t4, pt0, a016]
theorem wr5 : (writeP (t4 b) 1#64 (toBy 1#64)).1 = t5 b := by
  have e : toBy 1#64 = 1 := by decide +kernel
  rw [e]
  simp [writeP, wrT, t4, t5, pt0, a0128, a12, a115]
theorem rd7 : (readP (t5 b) 0#64).1 = t7 ∧ (readP (t5 b) 0#64).2.1 = b := by simp [readP, takeP, t5, t7, pt0, a0128]
theorem plR5 {p : List Int} {w q s : BitVec 32} {e : List (BitVec 32)} {l : List Int} {i B : Nat} (hB : plBst ⟨8, p, w, q, s, e, l⟩ i = B) : plR ⟨8, p, w, q, s, e, l⟩ ⟨5, i⟩ = if 0 < B then ⟨8, p, w, q &&& ~~~(bitK B), s ||| bitK B, e, l⟩ else ⟨8, p, w, q, s, e, l⟩ := by
  unfold plR
  simp only [hB, true_and]
theorem y1 : 1024#32 &&& ~~~(bitK 10) = 0#32 := by decide +kernel
theorem y2 : 0#32 ||| bitK 10 = 1024#32 := by decide +kernel
theorem y3 : 1024#32 ||| 1024#32 = 1024#32 := by decide +kernel
theorem y4 : 0#32 ||| 1024#32 &&& ~~~1024#32 = 0#32 := by decide +kernel
theorem y5 : 1024#32 ||| 1024#32 &&& ~~~0#32 = 1024#32 := by decide +kernel
theorem y6 : 1024#32 &&& ~~~1024#32 = 0#32 := by decide +kernel
theorem y7 : 0#32 ||| 0#32 &&& ~~~1024#32 = 0#32 := by decide +kernel
theorem y8 : 1024#32 ||| 0#32 &&& ~~~0#32 = 1024#32 := by decide +kernel
theorem z1 : 0#32 &&& ~~~1024#32 = 0#32 := rfl
theorem z2 : 0#32 ||| 0#32 &&& ~~~0#32 = 0#32 := rfl
theorem st1 : (⟨bN 8, pt0⟩ : Bx).go 0 (lq 201326632#64 4 (pw8 P)) = x1 P := by
  rw [go_lq2 (x := ⟨bN 8, pt0⟩) ad1 (p := ⟨1, 10⟩) ap1]
  show (⟨{ bN 8 with k := plWire (plW (pkZ 8) ⟨1, 10⟩ (pw8 P)) 10 (!decide (causeP pt0 = 1)) }, pt0⟩ : Bx) = _
  unfold pkZ
  rw [plW1, cp0, wire8, show ((pw8 P &&& 7#64).toNat : Int) = (P.val : Int) from v7' P]
  rfl
theorem st2 : (x1 P).go 0 (lq (201334784#64 + 128#64 * cw h) 4 1024#64) = x2 h P := by
  rw [go_lq2 (x := x1 P) (bp_eq (ad2' h)) (p := ⟨3, 2 * h.val⟩) (pa_eq (ap2' h))]
  show (⟨{ bb8 _ with k := plWire (plW ⟨8, pP (P.val : Int), 0#32, 0#32, 0#32, List.replicate 16 0#32, List.replicate 16 0⟩ ⟨3, 2 * h.val⟩ 1024#64) 10 (!decide (causeP pt0 = 1)) }, pt0⟩ : Bx) = _
  rw [plW3, cp0, wire8]
  rfl
theorem st3 : (x2 h P).go 0 (lq (203423744#64 + 4096#64 * cw h) 4 (pw8 L)) = x3 h P L := by
  rw [go_lq2 (x := x2 h P) (bp_eq (ad3' h)) (p := ⟨4, 2 * h.val⟩) (pa_eq (ap3' h))]
  show (⟨{ bb8 _ with k := plWire (plW ⟨8, pP (P.val : Int), 0#32, 0#32, 0#32, eC (2 * h.val), List.replicate 16 0⟩ ⟨4, 2 * h.val⟩ (pw8 L)) 10 (!decide (causeP pt0 = 1)) }, pt0⟩ : Bx) = _
  rw [plW4, cp0, wire8, show ((pw8 L &&& 7#64).toNat : Int) = (L.val : Int) from v7' L]
  rfl
theorem st4 {v : BitVec 64} (hv : toBy v = b) : (x3 h P L).go 0 (inq v) = x4 h P L b := by
  rw [go_in, hv, show (inputP (x3 h P L).t b).1 = t4 b from in4 b]
  show (⟨{ bb8 _ with k := plWire (kk (P.val : Int) (L.val : Int) (2 * h.val) 0#32 0#32 0#32) 10 (!decide (causeP (t4 b) = 1)) }, t4 b⟩ : Bx) = _
  unfold kk
  rw [cp4, wire8]
  rfl
theorem st5 : (x4 h P L b).go 0 (lq 268435457#64 1 1#64) = x5 h P L b := by
  rw [go_lq3 (x := x4 h P L b) (h := 0) ad5, show (writeP (x4 h P L b).t 1#64 (toBy 1#64)).1 = t5 b from wr5 b]
  show (⟨{ bb8 _ with k := plWire (kk (P.val : Int) (L.val : Int) (2 * h.val) 0#32 0#32 0#32) 10 (!decide (causeP (t5 b) = 1)) }, t5 b⟩ : Bx) = _
  unfold kk
  rw [cp5, wire8]
  rfl
theorem bB : plBst (kk (P.val : Int) (L.val : Int) (2 * h.val) 1024#32 1024#32 0#32) (2 * h.val) = if 0 < (P.val : Int) then 10 else 0 := by
  unfold plBst
  show bstN (pP (P.val : Int)) (1024#32 &&& (eC (2 * h.val)).getD (2 * h.val) 0#32) 0 31 = _
  rw [(ec' h).1]
  exact (bst' P 0).1
theorem st6 : (x5 h P L b).go (h.val : Int) (rdq (203423748#64 + 4096#64 * cw h) 4) = x6 h P L b ∧ (x5 h P L b).v (h.val : Int) (rdq (203423748#64 + 4096#64 * cw h) 4) = if 0 < (P.val : Int) then 10#64 else 0#64 := by
  obtain ⟨e1, e2⟩ := go_rd2 (x := x5 h P L b) (h := (h.val : Int)) (bp_eq (ad6' h)) (p := ⟨5, 2 * h.val⟩) (pa_eq (ap6' h))
  rw [e1, e2]
  have eB := bB h P L
  constructor
  · show (⟨{ bb8 _ with k := plWire (plR (kk (P.val : Int) (L.val : Int) (2 * h.val) 1024#32 1024#32 0#32) ⟨5, 2 * h.val⟩) 10 (!decide (causeP (t5 b) = 1)) }, t5 b⟩ : Bx) = _
    unfold x6
    unfold kk at eB ⊢
    rw [plR5 eB, cp5]
    by_cases c : 0 < (P.val : Int)
    · simp only [c, if_true]
      rw [if_pos (by decide), wire8, y1, y2, if_pos rfl, y3, y4]
      rfl
    · simp only [c, if_false]
      rw [if_neg (by decide), wire8, if_pos rfl, y3, y5]
      rfl
  · show plV (kk (P.val : Int) (L.val : Int) (2 * h.val) 1024#32 1024#32 0#32) ⟨5, 2 * h.val⟩ = _
    have e : plV (kk (P.val : Int) (L.val : Int) (2 * h.val) 1024#32 1024#32 0#32) ⟨5, 2 * h.val⟩ = BitVec.ofInt 64 (plBst (kk (P.val : Int) (L.val : Int) (2 * h.val) 1024#32 1024#32 0#32) (2 * h.val) : Int) := by simp [plV]
    rw [e, eB]
    by_cases c : 0 < (P.val : Int)
    · rw [if_pos c, if_pos c]; rfl
    · rw [if_neg c, if_neg c]; rfl
theorem st7 : (x6 h P L b).go (h.val : Int) (rdq 268435456#64 1) = x7 h P L ∧ (x6 h P L b).v (h.val : Int) (rdq 268435456#64 1) = BitVec.ofInt 64 b := by
  obtain ⟨e1, e2⟩ := go_rd3 (x := x6 h P L b) (h := (h.val : Int)) ad7
  obtain ⟨r1, r2⟩ := rd7 b
  rw [e1, e2, show (readP (x6 h P L b).t 0#64).1 = t7 from r1, show (readP (x6 h P L b).t 0#64).2.1 = b from r2]
  constructor
  · show (⟨{ bb8 _ with k := plWire (kk (P.val : Int) (L.val : Int) (2 * h.val) 1024#32 (if 0 < (P.val : Int) then 0#32 else 1024#32) (if 0 < (P.val : Int) then 1024#32 else 0#32)) 10 (!decide (causeP t7 = 1)) }, t7⟩ : Bx) = _
    unfold kk
    rw [cp7, wire8]
    unfold x7
    by_cases c : 0 < (P.val : Int)
    · simp only [c, if_true, if_false, Bool.false_eq_true, y6, y7]; rfl
    · simp only [c, if_false, Bool.false_eq_true, y6, y8]; rfl
  · rfl
theorem st8 : (x7 h P L).go 0 (lq (203423748#64 + 4096#64 * cw h) 4 10#64) = x8 h P L := by
  rw [go_lq2 (x := x7 h P L) (bp_eq (ad6' h)) (p := ⟨5, 2 * h.val⟩) (pa_eq (ap6' h))]
  show (⟨{ bb8 _ with k := plWire (plW (kk (P.val : Int) (L.val : Int) (2 * h.val) 0#32 (if 0 < (P.val : Int) then 0#32 else 1024#32) (if 0 < (P.val : Int) then 1024#32 else 0#32)) ⟨5, 2 * h.val⟩ 10#64) 10 (!decide (causeP t7 = 1)) }, t7⟩ : Bx) = _
  have ec := (ec' h).1
  unfold x8
  by_cases c : 0 < (P.val : Int)
  · simp only [c, if_true]
    have g : plGo (kk (P.val : Int) (L.val : Int) (2 * h.val) 0#32 0#32 1024#32) (2 * h.val) ((10#64).setWidth 32) := by
      refine ⟨by decide, ?_⟩
      show ¬ (eC (2 * h.val)).getD (2 * h.val) 0#32 &&& 1024#32 &&& bitK 10 = 0#32
      rw [ec]; decide
    unfold plW
    rw [if_neg (by simp), if_neg (by simp), if_neg (by simp), if_pos ⟨rfl, g⟩]
    unfold kk setl
    rw [cp7, show bitK ((10#64).setWidth 32).toNat = 1024#32 from by decide +kernel, wire8]
    simp only [if_false, Bool.false_eq_true, y6, z1, z2]
    rfl
  · simp only [c, if_false]
    have g : ¬ plGo (kk (P.val : Int) (L.val : Int) (2 * h.val) 0#32 1024#32 0#32) (2 * h.val) ((10#64).setWidth 32) := by
      rintro ⟨_, g⟩
      apply g
      show (eC (2 * h.val)).getD (2 * h.val) 0#32 &&& 0#32 &&& bitK 10 = 0#32
      rw [ec]; decide
    unfold plW
    rw [if_neg (by simp), if_neg (by simp), if_neg (by simp), if_neg (fun x => g x.2)]
    unfold kk
    rw [cp7, wire8]
    simp only [if_false, Bool.false_eq_true, y6, z1, y8]
    rfl
theorem pw_eq (P : Fin 8) : BitVec.ofInt 64 (P.val : Int) = pw8 P := Eq.trans rfl rfl
theorem cw_eq (h : Fin 8) : BitVec.ofInt 64 (2 * (h.val : Int)) = cw h := Eq.trans rfl rfl
theorem pw_lt (P L : Fin 8) : (pw8 L < pw8 P) = ((L.val : Int) < (P.val : Int)) := by
  have : ∀ P L : Fin 8, decide (pw8 L < pw8 P) = decide ((L.val : Int) < (P.val : Int)) := by decide +kernel
  have := this P L
  exact propext (by simpa using this)
theorem pw_z (P : Fin 8) : (pw8 P = 0#64) = ¬ (0 < (P.val : Int)) := by
  have : ∀ P : Fin 8, decide (pw8 P = 0#64) = !decide (0 < (P.val : Int)) := by decide +kernel
  have := this P
  rw [Bool.eq_iff_iff] at this
  simp only [decide_eq_true_eq, Bool.not_eq_true', decide_eq_false_iff_not] at this
  exact propext this
theorem pw_p (P : Fin 8) : (0#64 < pw8 P) = (0 < (P.val : Int)) := pw_lt P 0
theorem fin8 {a : Int} (h : 0 ≤ a) : ∃ f : Fin 8, a.tmod 8 = (f.val : Int) := by
  have h1 := Int.tmod_nonneg 8 h
  have h2 := Int.tmod_lt_of_pos a (b := 8) (by decide)
  exact ⟨⟨(a.tmod 8).toNat, by omega⟩, by show a.tmod 8 = ((a.tmod 8).toNat : Int); omega⟩
theorem toBy_of {b : Int} (h0 : 0 ≤ b) (h1 : b ≤ 255) : toBy (BitVec.ofInt 64 b) = b := by
  unfold toBy
  rw [BitVec.toNat_ofInt]
  have h : ∀ x : Int, IntKind.u8.wrap x = x % 256 := fun x => by simp [IntKind.wrap, IntKind.bits, IntKind.signed]
  rw [h]
  omega
theorem ab_k_rem8 {P : Program} {t : Nat} {k : IntKind} {x y : Int} : abin P .rem t (.c (.k k x)) (.c (.k k y)) = if 0 ≤ x ∧ 0 < y then some (.c (.k k (x.tmod y))) else none := if_pos rfl
theorem okc1 (v : BitVec 64) : bOk (⟨bN 8, pt0⟩ : Bx).b.n 0 (lq 201326632#64 4 v) = true := by
  rw [show (⟨bN 8, pt0⟩ : Bx).b.n = 8 from rfl]
  have := ad1
  simp [bOk, bMy, lq, this]
theorem okc2 (h : Fin 8) (v : BitVec 64) : bOk 8 0 (lq (201334784#64 + 128#64 * cw h) 4 v) = true := by
  have := bp_eq (ad2' h)
  simp [bOk, bMy, lq, this]
theorem okc3 (h : Fin 8) (v : BitVec 64) : bOk 8 0 (lq (203423744#64 + 4096#64 * cw h) 4 v) = true := by
  have := bp_eq (ad3' h)
  simp [bOk, bMy, lq, this]
theorem okc5 (v : BitVec 64) : bOk 8 0 (lq 268435457#64 1 v) = true := by
  have := ad5
  simp [bOk, bMy, lq, this]
theorem okc6 (h : Fin 8) (i : Int) : bOk 8 i (rdq (203423748#64 + 4096#64 * cw h) 4) = true := by
  have := bp_eq (ad6' h)
  simp [bOk, bMy, rdq, this]
theorem okc7 (i : Int) : bOk 8 i (rdq 268435456#64 1) = true := by
  have := ad7
  simp [bOk, bMy, rdq, this]
theorem okc8 (h : Fin 8) (v : BitVec 64) : bOk 8 0 (lq (203423748#64 + 4096#64 * cw h) 4 v) = true := by
  have := bp_eq (ad6' h)
  simp [bOk, bMy, lq, this]
theorem few0 : Few pt0 := ⟨by decide, by decide⟩
theorem few4 (b : Int) : Few (t4 b) := ⟨by show (1 : Nat) ≤ 1000000; decide, by show (0 : Nat) ≤ 1000000; decide⟩
theorem few5 (b : Int) : Few (t5 b) := ⟨by show (1 : Nat) ≤ 1000000; decide, by show (0 : Nat) ≤ 1000000; decide⟩
theorem few7 : Few t7 := ⟨by decide, by decide⟩
section
variable {H : AH} {id : Nat} {h P L : Fin 8} {b : Int}
theorem ch1 (hA : At H id ⟨bN 8, pt0⟩) : ∃ K1, s_blay [.c (.p id 0 0), .c (.u 201326632#64), .c (.i 4), .c (.u (pw8 P))] H = some (.c (.b true), K1) ∧ At K1 id (x1 P) := by
  obtain ⟨K1, e1, a1⟩ := hA.lay few0 201326632#64 4 (pw8 P)
  rw [st1] at a1
  rw [okc1] at e1
  exact ⟨K1, e1, a1⟩
theorem ch2 (hA : At H id (x1 P)) : ∃ K1, s_blay [.c (.p id 0 0), .c (.u (201334784#64 + 128#64 * cw h)), .c (.i 4), .c (.u 1024#64)] H = some (.c (.b true), K1) ∧ At K1 id (x2 h P) := by
  obtain ⟨K1, e1, a1⟩ := hA.lay few0 (201334784#64 + 128#64 * cw h) 4 1024#64
  rw [st2] at a1
  rw [show bOk (x1 P).b.n 0 (lq (201334784#64 + 128#64 * cw h) 4 1024#64) = true from okc2 h _] at e1
  exact ⟨K1, e1, a1⟩
theorem ch3 (hA : At H id (x2 h P)) : ∃ K1, s_blay [.c (.p id 0 0), .c (.u (203423744#64 + 4096#64 * cw h)), .c (.i 4), .c (.u (pw8 L))] H = some (.c (.b true), K1) ∧ At K1 id (x3 h P L) := by
  obtain ⟨K1, e1, a1⟩ := hA.lay few0 (203423744#64 + 4096#64 * cw h) 4 (pw8 L)
  rw [st3] at a1
  rw [show bOk (x2 h P).b.n 0 (lq (203423744#64 + 4096#64 * cw h) 4 (pw8 L)) = true from okc3 h _] at e1
  exact ⟨K1, e1, a1⟩
theorem ch4 (tb : toBy (BitVec.ofInt 64 b) = b) (hA : At H id (x3 h P L)) : ∃ K1 v q, s_bdo [.c (.p id 0 0), .c (.i 0), .g (aqC (inq (BitVec.ofInt 64 b)))] H = some (.t [.g (anC v false), .c (.b q)], K1) ∧ At K1 id (x4 h P L b) := by
  obtain ⟨K1, e1, a1⟩ := hA.do few0 0 (q := inq (BitVec.ofInt 64 b)) zR_ok
  rw [st4 h P L b tb] at a1
  exact ⟨K1, _, _, e1, a1⟩
theorem li4 (hA : At H id (x4 h P L b)) : s_blines [.c (.p id 0 0), .c (.i (h.val : Int))] H = some (.c (.u 0#64)) := by
  rw [hA.lines, show (x4 h P L b).b = bb8 (kk (P.val : Int) (L.val : Int) (2 * h.val) 0#32 0#32 0#32) from rfl, ln_kk h P L _ _ _ (.inl rfl), if_neg (by rintro ⟨x, _⟩; exact absurd x (by decide))]
theorem ch5 (hA : At H id (x4 h P L b)) : ∃ K1, s_blay [.c (.p id 0 0), .c (.u 268435457#64), .c (.i 1), .c (.u 1#64)] H = some (.c (.b true), K1) ∧ At K1 id (x5 h P L b) := by
  obtain ⟨K1, e1, a1⟩ := hA.lay (few4 b) 268435457#64 1 1#64
  rw [st5] at a1
  rw [show bOk (x4 h P L b).b.n 0 (lq 268435457#64 1 1#64) = true from okc5 _] at e1
  exact ⟨K1, e1, a1⟩
theorem li5 (hA : At H id (x5 h P L b)) : s_blines [.c (.p id 0 0), .c (.i (h.val : Int))] H = some (.c (.u (if (L.val : Int) < (P.val : Int) then 2048#64 else 0#64))) := by
  rw [hA.lines, show (x5 h P L b).b = bb8 (kk (P.val : Int) (L.val : Int) (2 * h.val) 1024#32 1024#32 0#32) from rfl, ln_kk h P L _ _ _ (.inr rfl)]
  simp only [true_and]
theorem ch6 (hA : At H id (x5 h P L b)) : ∃ K1, s_bdo [.c (.p id 0 0), .c (.i (h.val : Int)), .g (aqC (rdq (203423748#64 + 4096#64 * cw h) 4))] H = some (.t [.g (anC (if 0 < (P.val : Int) then 10#64 else 0#64) false), .c (.b true)], K1) ∧ At K1 id (x6 h P L b) := by
  obtain ⟨K1, e1, a1⟩ := hA.do (few5 b) (h.val : Int) (q := rdq (203423748#64 + 4096#64 * cw h) 4) zR_ok
  rw [(st6 h P L b).1] at a1
  rw [(st6 h P L b).2, show bOk (x5 h P L b).b.n (h.val : Int) (rdq (203423748#64 + 4096#64 * cw h) 4) = true from okc6 h _] at e1
  exact ⟨K1, e1, a1⟩
theorem li68 {w s : BitVec 32} {x : Bx} (hx : x.b = bb8 (kk (P.val : Int) (L.val : Int) (2 * h.val) w (if 0 < (P.val : Int) then 0#32 else 1024#32) s)) (hA : At H id x) : s_blines [.c (.p id 0 0), .c (.i (h.val : Int))] H = some (.c (.u 0#64)) := by
  have q6 : (if 0 < (P.val : Int) then 0#32 else 1024#32) = 0#32 ∨ (if 0 < (P.val : Int) then 0#32 else 1024#32) = 1024#32 := by split <;> simp
  have nL : ¬ ((if 0 < (P.val : Int) then 0#32 else 1024#32) = 1024#32 ∧ (L.val : Int) < (P.val : Int)) := by
    rintro ⟨x, y⟩
    rw [if_pos (by omega)] at x
    exact absurd x (by decide)
  rw [hA.lines, hx, ln_kk h P L _ _ _ q6, if_neg nL]
theorem li6 (hA : At H id (x6 h P L b)) : s_blines [.c (.p id 0 0), .c (.i (h.val : Int))] H = some (.c (.u 0#64)) := li68 rfl hA
theorem ch7 (hA : At H id (x6 h P L b)) : ∃ K1, s_bdo [.c (.p id 0 0), .c (.i (h.val : Int)), .g (aqC (rdq 268435456#64 1))] H = some (.t [.g (anC (BitVec.ofInt 64 b) false), .c (.b true)], K1) ∧ At K1 id (x7 h P L) := by
  obtain ⟨K1, e1, a1⟩ := hA.do (few5 b) (h.val : Int) (q := rdq 268435456#64 1) zR_ok
  rw [(st7 h P L b).1] at a1
  rw [(st7 h P L b).2, show bOk (x6 h P L b).b.n (h.val : Int) (rdq 268435456#64 1) = true from okc7 _] at e1
  exact ⟨K1, e1, a1⟩
theorem ch8 (hA : At H id (x7 h P L)) : ∃ K1, s_blay [.c (.p id 0 0), .c (.u (203423748#64 + 4096#64 * cw h)), .c (.i 4), .c (.u 10#64)] H = some (.c (.b true), K1) ∧ At K1 id (x8 h P L) := by
  obtain ⟨K1, e1, a1⟩ := hA.lay few7 (203423748#64 + 4096#64 * cw h) 4 10#64
  rw [st8] at a1
  rw [show bOk (x7 h P L).b.n 0 (lq (203423748#64 + 4096#64 * cw h) 4 10#64) = true from okc8 h _] at e1
  exact ⟨K1, e1, a1⟩
theorem li8 (hA : At H id (x8 h P L)) : s_blines [.c (.p id 0 0), .c (.i (h.val : Int))] H = some (.c (.u 0#64)) := li68 rfl hA
end
def s_calls18 (args : List AV) : Option AV :=
  match args with
  | [.c (.k .u8 a), .c (.k .u8 b), .g [.k .u8 u, .k .u8 v]] => if 0 ≤ a ∧ 0 ≤ b ∧ b ≤ 255 ∧ 0 ≤ u ∧ 0 ≤ v then some (.c (.b true)) else none
  | _ => none
theorem s_calls18_eq {a b u v} : s_calls18 [.c (.k .u8 a), .c (.k .u8 b), .g [.k .u8 u, .k .u8 v]] = if 0 ≤ a ∧ 0 ≤ b ∧ b ≤ 255 ∧ 0 ≤ u ∧ 0 ≤ v then some (.c (.b true)) else none := rfl
set_option maxRecDepth 100000 in
set_option maxHeartbeats 2000000 in
theorem ok_calls18 : PuOk Try.prog 3 s_calls18 := by
  refine pu_ok (tab := [(6, .fp s_bnew), (7, .fp s_blay), (8, .fp s_bdo), (9, .fq s_blines), (10, .pu s_live18)]) hmix (TabOk.cons (e := .fp s_bnew) ok_bnew (TabOk.cons (e := .fp s_blay) ok_blay (TabOk.cons (e := .fp s_bdo) ok_bdo (TabOk.cons (e := .fq s_blines) ok_blines (TabOk.cons (e := .pu s_live18) ok_live18 TabOk.nil))))) Try.func3 rfl Try.results3 Try.ntmps3 (by kernel_rfl) (by kernel_rfl) ?_
  intro args v h
  unfold s_calls18 at h
  split at h
  · rename_i a b u v
    split at h
    · rename_i hc
      simp only [Option.some.injEq] at h; subst h
      refine ⟨by simp only [List.length_cons, List.length_nil]; decide, rfl, rfl, ?_⟩
      obtain ⟨ca, cb, cb2, cu, cv⟩ := hc
      obtain ⟨h, eh⟩ := fin8 ca
      obtain ⟨P, eP⟩ := fin8 cu
      obtain ⟨L, eL⟩ := fin8 cv
      have w2 : w64 (2 * (h.val : Int)) = 2 * (h.val : Int) := w64_d (by have := h.isLt; omega) (by have := h.isLt; omega)
      have tb := toBy_of cb cb2
      have a0 := At.new [.own [.k .u8 u, .k .u8 v]] (n := 8) ⟨by decide, by decide⟩
      have e0 := s_bnew_ok (H := [.own [.k .u8 u, .k .u8 v]]) (n := 8) ⟨by decide, by decide⟩
      simp only [List.length_cons, List.length_nil, Nat.zero_add, List.cons_append, List.nil_append, Nat.reduceAdd] at e0 a0
      generalize hB : busC _ _ = B at *
      obtain ⟨K1, e1, a1⟩ := ch1 (P := P) a0
      obtain ⟨K2, e2, a2⟩ := ch2 (h := h) a1
      obtain ⟨K3, e3, a3⟩ := ch3 (L := L) a2
      obtain ⟨K4, v4, q4, e4, a4⟩ := ch4 tb a3
      have e5 := li4 a4
      obtain ⟨K5, e6, a5⟩ := ch5 a4
      have e7 := li5 a5
      obtain ⟨K6, e8, a6⟩ := ch6 a5
      have e9 := fun X => li6 (a6.app X)
      obtain ⟨K7, e10, a7⟩ := ch7 (a6.app [.own (anC (if 0 < (P.val : Int) then 10#64 else 0#64) false)])
      obtain ⟨K8, e11, a8⟩ := ch8 (a7.app [.own (anC (BitVec.ofInt 64 b) false)])
      have e12 := li8 a8
      clear a0 a1 a2 a3 a4 a5 a6 a7 a8 tb
      simp only [aqC, inq, rdq, zR, anC] at e4 e8 e10 e11
      have pl := pw_lt P L
      have pz := pw_z P
      have pp := pw_p P
      have cq := cw_eq h
      have uq := pw_eq P
      have vq := pw_eq L
      generalize cw h = C at *
      generalize pw8 P = U at *
      generalize pw8 L = V at *
      obtain ⟨A2, hA2⟩ : ∃ A, 201334784#64 + 128#64 * C = A := ⟨_, rfl⟩
      obtain ⟨A3, hA3⟩ : ∃ A, 203423744#64 + 4096#64 * C = A := ⟨_, rfl⟩
      obtain ⟨A6, hA6⟩ : ∃ A, 203423748#64 + 4096#64 * C = A := ⟨_, rfl⟩
      rw [hA2] at e2
      rw [hA3] at e3
      rw [hA6] at e8 e11
      by_cases c : 0 < (P.val : Int)
      · simp only [c, if_true, not_true_eq_false] at e8 e10 pz pp
        by_cases d : (L.val : Int) < (P.val : Int)
        · simp only [d, if_true] at e7 pl
          simp (config := { implicitDefEqProofs := false }) only [go_sem, seval, ab_k_rem8, ca, cu, cv, eh, eP, eL, w2, cq, uq, vq, hA2, hA3, hA6, e0, e1, e2, e3, e4, e5, e6, e7, e8, e9, e10, e11, e12, pl, pz, pp, s_live18_eq]
        · simp only [d, if_false] at e7 pl
          simp (config := { implicitDefEqProofs := false }) only [go_sem, seval, ab_k_rem8, ca, cu, cv, eh, eP, eL, w2, cq, uq, vq, hA2, hA3, hA6, e0, e1, e2, e3, e4, e5, e6, e7, e8, e9, e10, e11, e12, pl, pz, pp, s_live18_eq]
      · simp only [c, if_false, not_false_eq_true] at e8 e10 pz pp
        have d : ¬ (L.val : Int) < (P.val : Int) := by omega
        simp only [d, if_false] at e7 pl
        simp (config := { implicitDefEqProofs := false }) only [go_sem, seval, ab_k_rem8, ca, cu, cv, eh, eP, eL, w2, cq, uq, vq, hA2, hA3, hA6, e0, e1, e2, e3, e4, e5, e6, e7, e8, e9, e10, e11, e12, pl, pz, pp, s_live18_eq]
    · simp at h
  · simp at h
theorem fk_8b {s : Sc} (h : FitK s (.n .u8)) : ∃ x, s = .k .u8 x ∧ 0 ≤ x ∧ x ≤ 255 := by
  cases s with
  | k kd x =>
    simp only [FitK] at h
    obtain ⟨rfl, _, a, b⟩ := h
    exact ⟨x, rfl, a, b⟩
  | _ => simp [FitK] at h
theorem sig_calls18 (avs : List AV) (H : AH) (h : SigA [.fl false [.n .u8], .fl false [.n .u8], .fl true [.n .u8, .n .u8]] avs H) : s_calls18 avs = some (.c (.b true)) := by
  obtain ⟨s1, r1, rfl, q1, h1⟩ := sig_c h
  obtain ⟨a, rfl, a0, _⟩ := fk_8b q1
  obtain ⟨s2, r2, rfl, q2, h2⟩ := sig_c h1
  obtain ⟨b, rfl, b0, b1⟩ := fk_8b q2
  obtain ⟨l3, r3, rfl, g3, h3⟩ := sig_g h2
  obtain ⟨s4, l4, rfl, q4, g4⟩ := fit_cons g3
  obtain ⟨u, rfl, u0, _⟩ := fk_8b q4
  obtain ⟨s5, l5, rfl, q5, g5⟩ := fit_cons g4
  obtain ⟨v, rfl, v0, _⟩ := fk_8b q5
  obtain rfl := fit_nil g5
  obtain rfl := sig_nil h3
  rw [s_calls18_eq, if_pos ⟨a0, b0, b1, u0, v0⟩]
end
end Go.Proofs.Ytfddaaplnnlfoaa
