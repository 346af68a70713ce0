/- Layer 18: a byte that comes in: plain. -/
import Derived.Test.YtfddaaplnnlfoaaBs7
namespace Go.Proofs.Ytfddaaplnnlfoaa
open Go.Am
set_option linter.unusedSimpArgs false
set_option linter.unusedVariables false
noncomputable section

def rdq (a : BitVec 64) (z : Int) : Aq := ⟨9, a, 0#64, 0, z, 0, 0#64, 0#64, false, zR⟩
section
variable {x : Bx} {h : Int} {a : BitVec 64} {z : Int} {v : BitVec 64}
theorem ok_lq (hd : ¬ (bSp x.b.n a z).d = 0) : bOk x.b.n h (lq a z v) = true := by simp [bOk, bMy, lq, hd]
theorem ok_rdq (hd : ¬ (bSp x.b.n a z).d = 0) : bOk x.b.n h (rdq a z) = true := by simp [bOk, bMy, rdq, hd]
theorem go_lq2 {o : BitVec 64} {p : Pa} (hd : bSp x.b.n a z = ⟨2, o, z⟩) (hp : plAt x.b.k.n o z = p) : x.go h (lq a z v) = ⟨{ x.b with k := plWire (plW x.b.k p v) 10 (!decide (causeP x.t = 1)) }, x.t⟩ := by
  have ok := ok_lq (x := x) (h := h) (a := a) (z := z) (v := v) (by rw [hd]; simp)
  unfold Bx.go bDb bDt
  rw [show x.d.b.n = x.b.n from rfl, if_pos ok, if_pos ok]
  unfold bEn bMb bMt
  rw [show (lq a z v).k = 10 from rfl, show (lq a z v).a = a from rfl, show (lq a z v).s = z from rfl, show (lq a z v).d = v from rfl, show x.d.b.n = x.b.n from rfl, hd]
  rw [if_neg (by simp), if_pos rfl, if_neg (by simp), if_pos rfl]
  unfold bWb bWt
  rw [if_neg (by simp), if_pos rfl, if_pos (.inr rfl)]
  rw [show x.d.b = x.b from rfl, show x.d.t = x.t from rfl, hp]
theorem go_lq3 {o : BitVec 64} (hd : bSp x.b.n a z = ⟨3, o, z⟩) : x.go h (lq a z v) = ⟨{ x.b with k := plWire x.b.k 10 (!decide (causeP (writeP x.t o (toBy v)).1 = 1)) }, (writeP x.t o (toBy v)).1⟩ := by
  have ok := ok_lq (x := x) (h := h) (a := a) (z := z) (v := v) (by rw [hd]; simp)
  unfold Bx.go bDb bDt
  rw [show x.d.b.n = x.b.n from rfl, if_pos ok, if_pos ok]
  unfold bEn bMb bMt
  rw [show (lq a z v).k = 10 from rfl, show (lq a z v).a = a from rfl, show (lq a z v).s = z from rfl, show (lq a z v).d = v from rfl, show x.d.b.n = x.b.n from rfl, hd]
  rw [if_neg (by simp), if_pos rfl, if_neg (by simp), if_pos rfl]
  unfold bWb bWt
  rw [if_neg (by simp), if_neg (by simp), if_neg (by simp)]
  rfl
theorem go_rd2 {o : BitVec 64} {p : Pa} (hd : bSp x.b.n a z = ⟨2, o, z⟩) (hp : plAt x.b.k.n o z = p) : x.go h (rdq a z) = ⟨{ x.b with k := plWire (plR x.b.k p) 10 (!decide (causeP x.t = 1)) }, x.t⟩ ∧ x.v h (rdq a z) = plV x.b.k p := by
  have ok := ok_rdq (x := x) (h := h) (a := a) (z := z) (by rw [hd]; simp)
  unfold Bx.go Bx.v bDb bDt bDv
  rw [show x.d.b.n = x.b.n from rfl, if_pos ok, if_pos ok, if_pos ok]
  unfold bEn bMb bMt
  rw [show (rdq a z).k = 9 from rfl, show (rdq a z).a = a from rfl, show (rdq a z).s = z from rfl, show x.d.b.n = x.b.n from rfl, hd]
  rw [if_pos rfl, if_pos rfl, if_pos rfl]
  unfold bRb bRt bRv
  rw [if_pos rfl, if_pos (.inr rfl), if_neg (by simp), if_pos rfl]
  rw [show x.d.b = x.b from rfl, show x.d.t = x.t from rfl, hp]
  exact ⟨rfl, rfl⟩
theorem go_rd3 {o : BitVec 64} (hd : bSp x.b.n a z = ⟨3, o, z⟩) : x.go h (rdq a z) = ⟨{ x.b with k := plWire x.b.k 10 (!decide (causeP (readP x.t o).1 = 1)) }, (readP x.t o).1⟩ ∧ x.v h (rdq a z) = BitVec.ofInt 64 (readP x.t o).2.1 := by
  have ok := ok_rdq (x := x) (h := h) (a := a) (z := z) (by rw [hd]; simp)
  unfold Bx.go Bx.v bDb bDt bDv
  rw [show x.d.b.n = x.b.n from rfl, if_pos ok, if_pos ok, if_pos ok]
  unfold bEn bMb bMt
  rw [show (rdq a z).k = 9 from rfl, show (rdq a z).a = a from rfl, show (rdq a z).s = z from rfl, show x.d.b.n = x.b.n from rfl, hd]
  rw [if_pos rfl, if_pos rfl, if_pos rfl]
  unfold bRb bRt bRv
  rw [if_neg (by simp), if_neg (by simp), if_neg (by simp), if_neg (by simp)]
  exact ⟨rfl, rfl⟩
theorem go_in : x.go h (inq v) = ⟨{ x.b with k := plWire x.b.k 10 (!decide (causeP (inputP x.t (toBy v)).1 = 1)) }, (inputP x.t (toBy v)).1⟩ := by
  have ok : bOk x.b.n h (inq v) = true := by simp [bOk, bMy, inq]
  unfold Bx.go bDb bDt
  rw [show x.d.b.n = x.b.n from rfl, if_pos ok, if_pos ok]
  unfold bEn bMb bMt
  rw [show (inq v).k = 19 from rfl, show (inq v).d = v from rfl]
  rw [if_neg (by simp), if_neg (by simp), if_neg (by simp), if_neg (by simp), if_neg (by simp), if_neg (by simp), if_pos rfl]
  rfl
end
theorem wire8 {p : List Int} {w q s : BitVec 32} {e : List (BitVec 32)} {l : List Int} {on : Bool} : plWire ⟨8, p, w, q, s, e, l⟩ 10 on = ⟨8, p, if on = true then w ||| 1024#32 else w &&& ~~~1024#32, q ||| (if on = true then w ||| 1024#32 else w &&& ~~~1024#32) &&& ~~~s, s, e, l⟩ := by
  unfold plWire
  rw [if_neg (by simp)]
  cases on <;> rfl
def pP (P : Int) : List Int := (List.replicate 32 0).set 10 P
def eC (c : Nat) : List (BitVec 32) := (List.replicate 16 0#32).set c 1024#32
def lC (c : Nat) (L : Int) : List Int := (List.replicate 16 0).set c L
def kk (P L : Int) (c : Nat) (w q s : BitVec 32) : Pk := ⟨8, pP P, w, q, s, eC c, lC c L⟩
def bb8 (k : Pk) : Bs := ⟨8, ckN 8, k⟩
def cw (h : Nat) : BitVec 64 := BitVec.ofNat 64 (2 * h)
theorem bp_eq {p : Bp} {d s : Int} {o : BitVec 64} (h : p.d = d ∧ p.o = o ∧ p.s = s) : p = ⟨d, o, s⟩ := by
  obtain ⟨h1, h2, h3⟩ := h
  cases p
  simp only at h1 h2 h3
  subst h1 h2 h3
  rfl
theorem pa_eq {p : Pa} {k : Int} {i : Nat} (h : p.k = k ∧ p.i = i) : p = ⟨k, i⟩ := by
  obtain ⟨h1, h2⟩ := h
  cases p
  simp only at h1 h2
  subst h1 h2
  rfl
theorem ad1 : bSp 8 201326632#64 4 = ⟨2, 40#64, 4⟩ := bp_eq (by decide +kernel)
theorem ap1 : plAt 8 40#64 4 = ⟨1, 10⟩ := pa_eq (by decide +kernel)
theorem ad5 : bSp 8 268435457#64 1 = ⟨3, 1#64, 1⟩ := bp_eq (by decide +kernel)
theorem ad7 : bSp 8 268435456#64 1 = ⟨3, 0#64, 1⟩ := bp_eq (by decide +kernel)
theorem ad2' : ∀ h : Fin 8, (bSp 8 (201334784#64 + 128#64 * cw h) 4).d = 2 ∧ (bSp 8 (201334784#64 + 128#64 * cw h) 4).o = 8192#64 + 128#64 * cw h ∧ (bSp 8 (201334784#64 + 128#64 * cw h) 4).s = 4 := by decide +kernel
theorem ap2' : ∀ h : Fin 8, (plAt 8 (8192#64 + 128#64 * cw h) 4).k = 3 ∧ (plAt 8 (8192#64 + 128#64 * cw h) 4).i = 2 * h := by decide +kernel
theorem ad3' : ∀ h : Fin 8, (bSp 8 (203423744#64 + 4096#64 * cw h) 4).d = 2 ∧ (bSp 8 (203423744#64 + 4096#64 * cw h) 4).o = 2097152#64 + 4096#64 * cw h ∧ (bSp 8 (203423744#64 + 4096#64 * cw h) 4).s = 4 := by decide +kernel
theorem ap3' : ∀ h : Fin 8, (plAt 8 (2097152#64 + 4096#64 * cw h) 4).k = 4 ∧ (plAt 8 (2097152#64 + 4096#64 * cw h) 4).i = 2 * h := by decide +kernel
theorem ad6' : ∀ h : Fin 8, (bSp 8 (203423748#64 + 4096#64 * cw h) 4).d = 2 ∧ (bSp 8 (203423748#64 + 4096#64 * cw h) 4).o = 2097156#64 + 4096#64 * cw h ∧ (bSp 8 (203423748#64 + 4096#64 * cw h) 4).s = 4 := by decide +kernel
theorem ap6' : ∀ h : Fin 8, (plAt 8 (2097156#64 + 4096#64 * cw h) 4).k = 5 ∧ (plAt 8 (2097156#64 + 4096#64 * cw h) 4).i = 2 * h := by decide +kernel
theorem ckl' : ∀ h : Fin 8, ckL (ckN 8) (h.val : Int) = 0#64 := by decide +kernel
theorem bst' : ∀ P L : Fin 8, bstN (pP (P.val : Int)) 1024#32 (L.val : Int) 31 = (if (L.val : Int) < (P.val : Int) then 10 else 0) ∧ bstN (pP (P.val : Int)) 0#32 (L.val : Int) 31 = 0 := by decide +kernel
theorem ec' : ∀ h : Fin 8, (eC (2 * h.val)).getD (2 * h.val) 0#32 = 1024#32 ∧ (eC (2 * h.val)).getD (2 * h.val + 1) 0#32 = 0#32 := by decide +kernel
theorem lc' : ∀ h L : Fin 8, (lC (2 * h.val) (L.val : Int)).getD (2 * h.val) 0 = (L.val : Int) ∧ (lC (2 * h.val) (L.val : Int)).getD (2 * h.val + 1) 0 = 0 := by decide +kernel
theorem v7' : ∀ P : Fin 8, (((BitVec.ofNat 64 P.val) &&& 7#64).toNat : Int) = (P.val : Int) := by decide +kernel
section
variable (h P L : Fin 8)
def hi (h : Fin 8) : Int := (h.val : Int)
/-- what a hart is told -/
theorem ln_kk (w q s : BitVec 32) (hq : q = 0#32 ∨ q = 1024#32) : bLn (bb8 (kk (P.val : Int) (L.val : Int) (2 * h.val) w q s)) (h.val : Int) = if q = 1024#32 ∧ (L.val : Int) < (P.val : Int) then 2048#64 else 0#64 := by
  have e1 := ec' h
  have e2 := lc' h L
  have e3 := bst' P L
  have e4 := (bst' P 0).2
  have hlt := h.isLt
  have c0 : ckL (bb8 (kk (P.val : Int) (L.val : Int) (2 * h.val) w q s)).c (h.val : Int) = 0#64 := ckl' h
  have p1 : plLine (kk (P.val : Int) (L.val : Int) (2 * h.val) w q s) (2 * (h.val : Int) + 1) = false := by
    unfold plLine
    rw [show (2 * (h.val : Int) + 1).toNat = 2 * h.val + 1 by omega]
    show (_ && decide (0 < bstN (pP (P.val : Int)) (q &&& (eC (2 * h.val)).getD (2 * h.val + 1) 0#32) ((lC (2 * h.val) (L.val : Int)).getD (2 * h.val + 1) 0) 31)) = false
    rw [e1.2, e2.2, BitVec.and_zero, show (0 : Int) = ((0 : Fin 8).val : Int) from rfl, e4]
    simp
  have p0 : plLine (kk (P.val : Int) (L.val : Int) (2 * h.val) w q s) (2 * (h.val : Int)) = decide (q = 1024#32 ∧ (L.val : Int) < (P.val : Int)) := by
    unfold plLine
    rw [show (2 * (h.val : Int)).toNat = 2 * h.val by omega]
    show (decide (0 ≤ 2 * (h.val : Int) ∧ 2 * (h.val : Int) < 2 * 8) && decide (0 < bstN (pP (P.val : Int)) (q &&& (eC (2 * h.val)).getD (2 * h.val) 0#32) ((lC (2 * h.val) (L.val : Int)).getD (2 * h.val) 0) 31)) = _
    rw [e1.1, e2.1, decide_eq_true (show 0 ≤ 2 * (h.val : Int) ∧ 2 * (h.val : Int) < 2 * 8 by omega)]
    rcases hq with rfl | rfl
    · rw [show (0#32 &&& 1024#32) = 0#32 from rfl, e3.2]
      simp
    · rw [show (1024#32 &&& 1024#32) = 1024#32 from rfl, e3.1]
      by_cases c : (L.val : Int) < (P.val : Int) <;> simp [c]
  unfold bLn
  rw [if_neg (show ¬ ((h.val : Int) < 0 ∨ (bb8 (kk (P.val : Int) (L.val : Int) (2 * h.val) w q s)).n ≤ (h.val : Int)) by show ¬ ((h.val : Int) < 0 ∨ (8 : Int) ≤ _); omega)]
  rw [c0, show (bb8 (kk (P.val : Int) (L.val : Int) (2 * h.val) w q s)).k = kk (P.val : Int) (L.val : Int) (2 * h.val) w q s from rfl, p0, p1]
  rw [if_neg (by decide)]
  by_cases c : q = 1024#32 ∧ (L.val : Int) < (P.val : Int)
  · rw [if_pos c, if_pos (by simp [c])]; rfl
  · rw [if_neg c, if_neg (by simpa using c)]
end
end
end Go.Proofs.Ytfddaaplnnlfoaa
