/- Layer 3: words of 32 bits, all bits literally (printed by g11.py); numbers of words by formats: plain laws. -/
import Derived.Test.YtcfnfdafcfpohaaI10
namespace Go.Proofs.Ytcfnfdafcfpohaa
open Go.Am
set_option linter.unusedSimpArgs false
set_option linter.unusedVariables false
noncomputable section

theorem all5 {x y : BitVec 5} (h0 : x.getLsbD 0 = y.getLsbD 0) (h1 : x.getLsbD 1 = y.getLsbD 1) (h2 : x.getLsbD 2 = y.getLsbD 2) (h3 : x.getLsbD 3 = y.getLsbD 3) (h4 : x.getLsbD 4 = y.getLsbD 4) : x = y := by
  apply BitVec.eq_of_getLsbD_eq
  intro i hi
  have : i = 0 ∨ i = 1 ∨ i = 2 ∨ i = 3 ∨ i = 4 := by omega
  rcases this with rfl | rfl | rfl | rfl | rfl <;> assumption
theorem all6 {x y : BitVec 6} (h0 : x.getLsbD 0 = y.getLsbD 0) (h1 : x.getLsbD 1 = y.getLsbD 1) (h2 : x.getLsbD 2 = y.getLsbD 2) (h3 : x.getLsbD 3 = y.getLsbD 3) (h4 : x.getLsbD 4 = y.getLsbD 4) (h5 : x.getLsbD 5 = y.getLsbD 5) : x = y := by
  apply BitVec.eq_of_getLsbD_eq
  intro i hi
  have : i = 0 ∨ i = 1 ∨ i = 2 ∨ i = 3 ∨ i = 4 ∨ i = 5 := by omega
  rcases this with rfl | rfl | rfl | rfl | rfl | rfl <;> assumption
theorem all12 {x y : BitVec 12} (h0 : x.getLsbD 0 = y.getLsbD 0) (h1 : x.getLsbD 1 = y.getLsbD 1) (h2 : x.getLsbD 2 = y.getLsbD 2) (h3 : x.getLsbD 3 = y.getLsbD 3) (h4 : x.getLsbD 4 = y.getLsbD 4) (h5 : x.getLsbD 5 = y.getLsbD 5) (h6 : x.getLsbD 6 = y.getLsbD 6) (h7 : x.getLsbD 7 = y.getLsbD 7) (h8 : x.getLsbD 8 = y.getLsbD 8) (h9 : x.getLsbD 9 = y.getLsbD 9) (h10 : x.getLsbD 10 = y.getLsbD 10) (h11 : x.getLsbD 11 = y.getLsbD 11) : x = y := by
  apply BitVec.eq_of_getLsbD_eq
  intro i hi
  have : i = 0 ∨ i = 1 ∨ i = 2 ∨ i = 3 ∨ i = 4 ∨ i = 5 ∨ i = 6 ∨ i = 7 ∨ i = 8 ∨ i = 9 ∨ i = 10 ∨ i = 11 := by omega
  rcases this with rfl | rfl | rfl | rfl | rfl | rfl | rfl | rfl | rfl | rfl | rfl | rfl <;> assumption
theorem all20 {x y : BitVec 20} (h0 : x.getLsbD 0 = y.getLsbD 0) (h1 : x.getLsbD 1 = y.getLsbD 1) (h2 : x.getLsbD 2 = y.getLsbD 2) (h3 : x.getLsbD 3 = y.getLsbD 3) (h4 : x.getLsbD 4 = y.getLsbD 4) (h5 : x.getLsbD 5 = y.getLsbD 5) (h6 : x.getLsbD 6 = y.getLsbD 6) (h7 : x.getLsbD 7 = y.getLsbD 7) (h8 : x.getLsbD 8 = y.getLsbD 8) (h9 : x.getLsbD 9 = y.getLsbD 9) (h10 : x.getLsbD 10 = y.getLsbD 10) (h11 : x.getLsbD 11 = y.getLsbD 11) (h12 : x.getLsbD 12 = y.getLsbD 12) (h13 : x.getLsbD 13 = y.getLsbD 13) (h14 : x.getLsbD 14 = y.getLsbD 14) (h15 : x.getLsbD 15 = y.getLsbD 15) (h16 : x.getLsbD 16 = y.getLsbD 16) (h17 : x.getLsbD 17 = y.getLsbD 17) (h18 : x.getLsbD 18 = y.getLsbD 18) (h19 : x.getLsbD 19 = y.getLsbD 19) : x = y := by
  apply BitVec.eq_of_getLsbD_eq
  intro i hi
  have : i = 0 ∨ i = 1 ∨ i = 2 ∨ i = 3 ∨ i = 4 ∨ i = 5 ∨ i = 6 ∨ i = 7 ∨ i = 8 ∨ i = 9 ∨ i = 10 ∨ i = 11 ∨ i = 12 ∨ i = 13 ∨ i = 14 ∨ i = 15 ∨ i = 16 ∨ i = 17 ∨ i = 18 ∨ i = 19 := by omega
  rcases this with rfl | rfl | rfl | rfl | rfl | rfl | rfl | rfl | rfl | rfl | rfl | rfl | rfl | rfl | rfl | rfl | rfl | rfl | rfl | rfl <;> assumption
theorem all32 {x y : BitVec 32} (h0 : x.getLsbD 0 = y.getLsbD 0) (h1 : x.getLsbD 1 = y.getLsbD 1) (h2 : x.getLsbD 2 = y.getLsbD 2) (h3 : x.getLsbD 3 = y.getLsbD 3) (h4 : x.getLsbD 4 = y.getLsbD 4) (h5 : x.getLsbD 5 = y.getLsbD 5) (h6 : x.getLsbD 6 = y.getLsbD 6) (h7 : x.getLsbD 7 = y.getLsbD 7) (h8 : x.getLsbD 8 = y.getLsbD 8) (h9 : x.getLsbD 9 = y.getLsbD 9) (h10 : x.getLsbD 10 = y.getLsbD 10) (h11 : x.getLsbD 11 = y.getLsbD 11) (h12 : x.getLsbD 12 = y.getLsbD 12) (h13 : x.getLsbD 13 = y.getLsbD 13) (h14 : x.getLsbD 14 = y.getLsbD 14) (h15 : x.getLsbD 15 = y.getLsbD 15) (h16 : x.getLsbD 16 = y.getLsbD 16) (h17 : x.getLsbD 17 = y.getLsbD 17) (h18 : x.getLsbD 18 = y.getLsbD 18) (h19 : x.getLsbD 19 = y.getLsbD 19) (h20 : x.getLsbD 20 = y.getLsbD 20) (h21 : x.getLsbD 21 = y.getLsbD 21) (h22 : x.getLsbD 22 = y.getLsbD 22) (h23 : x.getLsbD 23 = y.getLsbD 23) (h24 : x.getLsbD 24 = y.getLsbD 24) (h25 : x.getLsbD 25 = y.getLsbD 25) (h26 : x.getLsbD 26 = y.getLsbD 26) (h27 : x.getLsbD 27 = y.getLsbD 27) (h28 : x.getLsbD 28 = y.getLsbD 28) (h29 : x.getLsbD 29 = y.getLsbD 29) (h30 : x.getLsbD 30 = y.getLsbD 30) (h31 : x.getLsbD 31 = y.getLsbD 31) : x = y := by
  apply BitVec.eq_of_getLsbD_eq
  intro i hi
  have : i = 0 ∨ i = 1 ∨ i = 2 ∨ i = 3 ∨ i = 4 ∨ i = 5 ∨ i = 6 ∨ i = 7 ∨ i = 8 ∨ i = 9 ∨ i = 10 ∨ i = 11 ∨ i = 12 ∨ i = 13 ∨ i = 14 ∨ i = 15 ∨ i = 16 ∨ i = 17 ∨ i = 18 ∨ i = 19 ∨ i = 20 ∨ i = 21 ∨ i = 22 ∨ i = 23 ∨ i = 24 ∨ i = 25 ∨ i = 26 ∨ i = 27 ∨ i = 28 ∨ i = 29 ∨ i = 30 ∨ i = 31 := by omega
  rcases this with rfl | rfl | rfl | rfl | rfl | rfl | rfl | rfl | rfl | rfl | rfl | rfl | rfl | rfl | rfl | rfl | rfl | rfl | rfl | rfl | rfl | rfl | rfl | rfl | rfl | rfl | rfl | rfl | rfl | rfl | rfl | rfl <;> assumption

def lyI (y : BitVec 12) : BitVec 32 := y.setWidth 32 <<< 20
def getI (b : BitVec 32) : BitVec 12 := (b >>> 20).setWidth 12
def lyS (y : BitVec 12) : BitVec 32 := ((y >>> 5).setWidth 32 <<< 25) ||| ((y.setWidth 5).setWidth 32 <<< 7)
def getS (b : BitVec 32) : BitVec 12 := ((b >>> 25).setWidth 12 <<< 5) ||| ((b >>> 7).setWidth 5).setWidth 12
def lyB (y : BitVec 12) : BitVec 32 := (((y >>> 11).setWidth 32 <<< 31) ||| ((((y >>> 4).setWidth 6).setWidth 32) <<< 25) ||| (((y.setWidth 4).setWidth 32) <<< 8)) ||| ((((y >>> 10).setWidth 1).setWidth 32) <<< 7)
def getB (b : BitVec 32) : BitVec 12 := ((b >>> 31).setWidth 12 <<< 11) ||| (((b >>> 7).setWidth 1).setWidth 12 <<< 10) ||| (((b >>> 25).setWidth 6).setWidth 12 <<< 4) ||| ((b >>> 8).setWidth 4).setWidth 12
def lyU (y : BitVec 20) : BitVec 32 := y.setWidth 32 <<< 12
def getU (b : BitVec 32) : BitVec 20 := (b >>> 12).setWidth 20
def lyJ (y : BitVec 20) : BitVec 32 := (((y >>> 19).setWidth 32 <<< 31) ||| (((y.setWidth 10).setWidth 32) <<< 21) ||| ((((y >>> 10).setWidth 1).setWidth 32) <<< 20)) ||| ((((y >>> 11).setWidth 8).setWidth 32) <<< 12)
def getJ (b : BitVec 32) : BitVec 20 := ((b >>> 31).setWidth 20 <<< 19) ||| (((b >>> 12).setWidth 8).setWidth 20 <<< 11) ||| (((b >>> 20).setWidth 1).setWidth 20 <<< 10) ||| ((b >>> 21).setWidth 10).setWidth 20
def lyH (y : BitVec 6) : BitVec 32 := y.setWidth 32 <<< 20
def getH (b : BitVec 32) : BitVec 6 := (b >>> 20).setWidth 6
def lyW (y : BitVec 5) : BitVec 32 := y.setWidth 32 <<< 20
def getW (b : BitVec 32) : BitVec 5 := (b >>> 20).setWidth 5
def rf (b : BitVec 32) (a : Nat) : BitVec 5 := (b >>> a).setWidth 5
theorem xeR0 (v : BitVec 32) (d : BitVec 5) (s : BitVec 5) (t : BitVec 5) : ((v &&& 4261441663#32) ||| (d.setWidth 32 <<< 7) ||| (s.setWidth 32 <<< 15) ||| (t.setWidth 32 <<< 20)) &&& 4261441663#32 = v &&& 4261441663#32 := by
  apply all32 <;> simp []
theorem xeR1 (v : BitVec 32) (d : BitVec 5) (s : BitVec 5) (t : BitVec 5) : rf ((v &&& 4261441663#32) ||| (d.setWidth 32 <<< 7) ||| (s.setWidth 32 <<< 15) ||| (t.setWidth 32 <<< 20)) 7 = d := by
  apply all5 <;> simp [rf]
theorem xeR2 (v : BitVec 32) (d : BitVec 5) (s : BitVec 5) (t : BitVec 5) : rf ((v &&& 4261441663#32) ||| (d.setWidth 32 <<< 7) ||| (s.setWidth 32 <<< 15) ||| (t.setWidth 32 <<< 20)) 15 = s := by
  apply all5 <;> simp [rf]
theorem xeR3 (v : BitVec 32) (d : BitVec 5) (s : BitVec 5) (t : BitVec 5) : rf ((v &&& 4261441663#32) ||| (d.setWidth 32 <<< 7) ||| (s.setWidth 32 <<< 15) ||| (t.setWidth 32 <<< 20)) 20 = t := by
  apply all5 <;> simp [rf]
theorem xdR (b : BitVec 32) : (b &&& 4261441663#32) ||| ((rf b 7).setWidth 32 <<< 7) ||| ((rf b 15).setWidth 32 <<< 15) ||| ((rf b 20).setWidth 32 <<< 20) = b := by
  apply all32 <;> simp [rf]
theorem xeI0 (v : BitVec 32) (d : BitVec 5) (s : BitVec 5) (y : BitVec 12) : ((v &&& 28799#32) ||| lyI y ||| (d.setWidth 32 <<< 7) ||| (s.setWidth 32 <<< 15)) &&& 28799#32 = v &&& 28799#32 := by
  apply all32 <;> simp [lyI, getI]
theorem xeI1 (v : BitVec 32) (d : BitVec 5) (s : BitVec 5) (y : BitVec 12) : rf ((v &&& 28799#32) ||| lyI y ||| (d.setWidth 32 <<< 7) ||| (s.setWidth 32 <<< 15)) 7 = d := by
  apply all5 <;> simp [rf, lyI, getI]
theorem xeI2 (v : BitVec 32) (d : BitVec 5) (s : BitVec 5) (y : BitVec 12) : rf ((v &&& 28799#32) ||| lyI y ||| (d.setWidth 32 <<< 7) ||| (s.setWidth 32 <<< 15)) 15 = s := by
  apply all5 <;> simp [rf, lyI, getI]
theorem xeI3 (v : BitVec 32) (d : BitVec 5) (s : BitVec 5) (y : BitVec 12) : getI ((v &&& 28799#32) ||| lyI y ||| (d.setWidth 32 <<< 7) ||| (s.setWidth 32 <<< 15)) = y := by
  apply all12 <;> simp [lyI, getI]
theorem xdI (b : BitVec 32) : (b &&& 28799#32) ||| lyI (getI b) ||| ((rf b 7).setWidth 32 <<< 7) ||| ((rf b 15).setWidth 32 <<< 15) = b := by
  apply all32 <;> simp [rf, lyI, getI]
theorem xeS0 (v : BitVec 32) (s : BitVec 5) (t : BitVec 5) (y : BitVec 12) : ((v &&& 28799#32) ||| lyS y ||| (s.setWidth 32 <<< 15) ||| (t.setWidth 32 <<< 20)) &&& 28799#32 = v &&& 28799#32 := by
  apply all32 <;> simp [lyS, getS]
theorem xeS1 (v : BitVec 32) (s : BitVec 5) (t : BitVec 5) (y : BitVec 12) : rf ((v &&& 28799#32) ||| lyS y ||| (s.setWidth 32 <<< 15) ||| (t.setWidth 32 <<< 20)) 15 = s := by
  apply all5 <;> simp [rf, lyS, getS]
theorem xeS2 (v : BitVec 32) (s : BitVec 5) (t : BitVec 5) (y : BitVec 12) : rf ((v &&& 28799#32) ||| lyS y ||| (s.setWidth 32 <<< 15) ||| (t.setWidth 32 <<< 20)) 20 = t := by
  apply all5 <;> simp [rf, lyS, getS]
theorem xeS3 (v : BitVec 32) (s : BitVec 5) (t : BitVec 5) (y : BitVec 12) : getS ((v &&& 28799#32) ||| lyS y ||| (s.setWidth 32 <<< 15) ||| (t.setWidth 32 <<< 20)) = y := by
  apply all12 <;> simp [lyS, getS]
theorem xdS (b : BitVec 32) : (b &&& 28799#32) ||| lyS (getS b) ||| ((rf b 15).setWidth 32 <<< 15) ||| ((rf b 20).setWidth 32 <<< 20) = b := by
  apply all32 <;> simp [rf, lyS, getS]
theorem xeB0 (v : BitVec 32) (s : BitVec 5) (t : BitVec 5) (y : BitVec 12) : ((v &&& 28799#32) ||| lyB y ||| (s.setWidth 32 <<< 15) ||| (t.setWidth 32 <<< 20)) &&& 28799#32 = v &&& 28799#32 := by
  apply all32 <;> simp [lyB, getB]
theorem xeB1 (v : BitVec 32) (s : BitVec 5) (t : BitVec 5) (y : BitVec 12) : rf ((v &&& 28799#32) ||| lyB y ||| (s.setWidth 32 <<< 15) ||| (t.setWidth 32 <<< 20)) 15 = s := by
  apply all5 <;> simp [rf, lyB, getB]
theorem xeB2 (v : BitVec 32) (s : BitVec 5) (t : BitVec 5) (y : BitVec 12) : rf ((v &&& 28799#32) ||| lyB y ||| (s.setWidth 32 <<< 15) ||| (t.setWidth 32 <<< 20)) 20 = t := by
  apply all5 <;> simp [rf, lyB, getB]
theorem xeB3 (v : BitVec 32) (s : BitVec 5) (t : BitVec 5) (y : BitVec 12) : getB ((v &&& 28799#32) ||| lyB y ||| (s.setWidth 32 <<< 15) ||| (t.setWidth 32 <<< 20)) = y := by
  apply all12 <;> simp [lyB, getB]
theorem xdB (b : BitVec 32) : (b &&& 28799#32) ||| lyB (getB b) ||| ((rf b 15).setWidth 32 <<< 15) ||| ((rf b 20).setWidth 32 <<< 20) = b := by
  apply all32 <;> simp [rf, lyB, getB]
theorem xeU0 (v : BitVec 32) (d : BitVec 5) (y : BitVec 20) : ((v &&& 127#32) ||| lyU y ||| (d.setWidth 32 <<< 7)) &&& 127#32 = v &&& 127#32 := by
  apply all32 <;> simp [lyU, getU]
theorem xeU1 (v : BitVec 32) (d : BitVec 5) (y : BitVec 20) : rf ((v &&& 127#32) ||| lyU y ||| (d.setWidth 32 <<< 7)) 7 = d := by
  apply all5 <;> simp [rf, lyU, getU]
theorem xeU2 (v : BitVec 32) (d : BitVec 5) (y : BitVec 20) : getU ((v &&& 127#32) ||| lyU y ||| (d.setWidth 32 <<< 7)) = y := by
  apply all20 <;> simp [lyU, getU]
theorem xdU (b : BitVec 32) : (b &&& 127#32) ||| lyU (getU b) ||| ((rf b 7).setWidth 32 <<< 7) = b := by
  apply all32 <;> simp [rf, lyU, getU]
theorem xeJ0 (v : BitVec 32) (d : BitVec 5) (y : BitVec 20) : ((v &&& 127#32) ||| lyJ y ||| (d.setWidth 32 <<< 7)) &&& 127#32 = v &&& 127#32 := by
  apply all32 <;> simp [lyJ, getJ]
theorem xeJ1 (v : BitVec 32) (d : BitVec 5) (y : BitVec 20) : rf ((v &&& 127#32) ||| lyJ y ||| (d.setWidth 32 <<< 7)) 7 = d := by
  apply all5 <;> simp [rf, lyJ, getJ]
theorem xeJ2 (v : BitVec 32) (d : BitVec 5) (y : BitVec 20) : getJ ((v &&& 127#32) ||| lyJ y ||| (d.setWidth 32 <<< 7)) = y := by
  apply all20 <;> simp [lyJ, getJ]
theorem xdJ (b : BitVec 32) : (b &&& 127#32) ||| lyJ (getJ b) ||| ((rf b 7).setWidth 32 <<< 7) = b := by
  apply all32 <;> simp [rf, lyJ, getJ]
theorem xeH0 (v : BitVec 32) (d : BitVec 5) (s : BitVec 5) (y : BitVec 6) : ((v &&& 4227887231#32) ||| lyH y ||| (d.setWidth 32 <<< 7) ||| (s.setWidth 32 <<< 15)) &&& 4227887231#32 = v &&& 4227887231#32 := by
  apply all32 <;> simp [lyH, getH]
theorem xeH1 (v : BitVec 32) (d : BitVec 5) (s : BitVec 5) (y : BitVec 6) : rf ((v &&& 4227887231#32) ||| lyH y ||| (d.setWidth 32 <<< 7) ||| (s.setWidth 32 <<< 15)) 7 = d := by
  apply all5 <;> simp [rf, lyH, getH]
theorem xeH2 (v : BitVec 32) (d : BitVec 5) (s : BitVec 5) (y : BitVec 6) : rf ((v &&& 4227887231#32) ||| lyH y ||| (d.setWidth 32 <<< 7) ||| (s.setWidth 32 <<< 15)) 15 = s := by
  apply all5 <;> simp [rf, lyH, getH]
theorem xeH3 (v : BitVec 32) (d : BitVec 5) (s : BitVec 5) (y : BitVec 6) : getH ((v &&& 4227887231#32) ||| lyH y ||| (d.setWidth 32 <<< 7) ||| (s.setWidth 32 <<< 15)) = y := by
  apply all6 <;> simp [lyH, getH]
theorem xdH (b : BitVec 32) : (b &&& 4227887231#32) ||| lyH (getH b) ||| ((rf b 7).setWidth 32 <<< 7) ||| ((rf b 15).setWidth 32 <<< 15) = b := by
  apply all32 <;> simp [rf, lyH, getH]
theorem xeW0 (v : BitVec 32) (d : BitVec 5) (s : BitVec 5) (y : BitVec 5) : ((v &&& 4261441663#32) ||| lyW y ||| (d.setWidth 32 <<< 7) ||| (s.setWidth 32 <<< 15)) &&& 4261441663#32 = v &&& 4261441663#32 := by
  apply all32 <;> simp [lyW, getW]
theorem xeW1 (v : BitVec 32) (d : BitVec 5) (s : BitVec 5) (y : BitVec 5) : rf ((v &&& 4261441663#32) ||| lyW y ||| (d.setWidth 32 <<< 7) ||| (s.setWidth 32 <<< 15)) 7 = d := by
  apply all5 <;> simp [rf, lyW, getW]
theorem xeW2 (v : BitVec 32) (d : BitVec 5) (s : BitVec 5) (y : BitVec 5) : rf ((v &&& 4261441663#32) ||| lyW y ||| (d.setWidth 32 <<< 7) ||| (s.setWidth 32 <<< 15)) 15 = s := by
  apply all5 <;> simp [rf, lyW, getW]
theorem xeW3 (v : BitVec 32) (d : BitVec 5) (s : BitVec 5) (y : BitVec 5) : getW ((v &&& 4261441663#32) ||| lyW y ||| (d.setWidth 32 <<< 7) ||| (s.setWidth 32 <<< 15)) = y := by
  apply all5 <;> simp [lyW, getW]
theorem xdW (b : BitVec 32) : (b &&& 4261441663#32) ||| lyW (getW b) ||| ((rf b 7).setWidth 32 <<< 7) ||| ((rf b 15).setWidth 32 <<< 15) = b := by
  apply all32 <;> simp [rf, lyW, getW]
theorem xeC0 (v : BitVec 32) (d : BitVec 5) (s : BitVec 5) (c : BitVec 12) : ((v &&& 28799#32) ||| (d.setWidth 32 <<< 7) ||| (s.setWidth 32 <<< 15) ||| (c.setWidth 32 <<< 20)) &&& 28799#32 = v &&& 28799#32 := by
  apply all32 <;> simp []
theorem xeC1 (v : BitVec 32) (d : BitVec 5) (s : BitVec 5) (c : BitVec 12) : rf ((v &&& 28799#32) ||| (d.setWidth 32 <<< 7) ||| (s.setWidth 32 <<< 15) ||| (c.setWidth 32 <<< 20)) 7 = d := by
  apply all5 <;> simp [rf]
theorem xeC2 (v : BitVec 32) (d : BitVec 5) (s : BitVec 5) (c : BitVec 12) : rf ((v &&& 28799#32) ||| (d.setWidth 32 <<< 7) ||| (s.setWidth 32 <<< 15) ||| (c.setWidth 32 <<< 20)) 15 = s := by
  apply all5 <;> simp [rf]
theorem xeC3 (v : BitVec 32) (d : BitVec 5) (s : BitVec 5) (c : BitVec 12) : (((v &&& 28799#32) ||| (d.setWidth 32 <<< 7) ||| (s.setWidth 32 <<< 15) ||| (c.setWidth 32 <<< 20)) >>> 20).setWidth 12 = c := by
  apply all12 <;> simp []
theorem xdC (b : BitVec 32) : (b &&& 28799#32) ||| ((rf b 7).setWidth 32 <<< 7) ||| ((rf b 15).setWidth 32 <<< 15) ||| (((b >>> 20).setWidth 12).setWidth 32 <<< 20) = b := by
  apply all32 <;> simp [rf]
theorem xeA0 (v : BitVec 32) (d : BitVec 5) (s : BitVec 5) (t : BitVec 5) (p q : Bool) : (((v &&& 4160778367#32) ||| (d.setWidth 32 <<< 7) ||| (s.setWidth 32 <<< 15) ||| (t.setWidth 32 <<< 20)) ||| (if p = true then 67108864#32 else 0#32) ||| (if q = true then 33554432#32 else 0#32)) &&& 4160778367#32 = v &&& 4160778367#32 := by
  cases p <;> cases q <;> apply all32 <;> simp []
theorem xeA1 (v : BitVec 32) (d : BitVec 5) (s : BitVec 5) (t : BitVec 5) (p q : Bool) : rf (((v &&& 4160778367#32) ||| (d.setWidth 32 <<< 7) ||| (s.setWidth 32 <<< 15) ||| (t.setWidth 32 <<< 20)) ||| (if p = true then 67108864#32 else 0#32) ||| (if q = true then 33554432#32 else 0#32)) 7 = d := by
  cases p <;> cases q <;> apply all5 <;> simp [rf]
theorem xeA2 (v : BitVec 32) (d : BitVec 5) (s : BitVec 5) (t : BitVec 5) (p q : Bool) : rf (((v &&& 4160778367#32) ||| (d.setWidth 32 <<< 7) ||| (s.setWidth 32 <<< 15) ||| (t.setWidth 32 <<< 20)) ||| (if p = true then 67108864#32 else 0#32) ||| (if q = true then 33554432#32 else 0#32)) 15 = s := by
  cases p <;> cases q <;> apply all5 <;> simp [rf]
theorem xeA3 (v : BitVec 32) (d : BitVec 5) (s : BitVec 5) (t : BitVec 5) (p q : Bool) : rf (((v &&& 4160778367#32) ||| (d.setWidth 32 <<< 7) ||| (s.setWidth 32 <<< 15) ||| (t.setWidth 32 <<< 20)) ||| (if p = true then 67108864#32 else 0#32) ||| (if q = true then 33554432#32 else 0#32)) 20 = t := by
  cases p <;> cases q <;> apply all5 <;> simp [rf]
theorem xeA4 (v : BitVec 32) (d : BitVec 5) (s : BitVec 5) (t : BitVec 5) (p q : Bool) : (((v &&& 4160778367#32) ||| (d.setWidth 32 <<< 7) ||| (s.setWidth 32 <<< 15) ||| (t.setWidth 32 <<< 20)) ||| (if p = true then 67108864#32 else 0#32) ||| (if q = true then 33554432#32 else 0#32)).getLsbD 26 = p := by
  cases p <;> cases q <;> simp []
theorem xeA5 (v : BitVec 32) (d : BitVec 5) (s : BitVec 5) (t : BitVec 5) (p q : Bool) : (((v &&& 4160778367#32) ||| (d.setWidth 32 <<< 7) ||| (s.setWidth 32 <<< 15) ||| (t.setWidth 32 <<< 20)) ||| (if p = true then 67108864#32 else 0#32) ||| (if q = true then 33554432#32 else 0#32)).getLsbD 25 = q := by
  cases p <;> cases q <;> simp []
theorem xdA (b : BitVec 32) : ((b &&& 4160778367#32) ||| ((rf b 7).setWidth 32 <<< 7) ||| ((rf b 15).setWidth 32 <<< 15) ||| ((rf b 20).setWidth 32 <<< 20)) ||| (if b.getLsbD 26 = true then 67108864#32 else 0#32) ||| (if b.getLsbD 25 = true then 33554432#32 else 0#32) = b := by
  cases hp : b.getLsbD 26 <;> cases hq : b.getLsbD 25 <;> simp at hp hq <;> apply all32 <;> simp [rf, hp, hq]
theorem xeL0 (v : BitVec 32) (d : BitVec 5) (s : BitVec 5)  (p q : Bool) : (((v &&& 4193284223#32) ||| (d.setWidth 32 <<< 7) ||| (s.setWidth 32 <<< 15)) ||| (if p = true then 67108864#32 else 0#32) ||| (if q = true then 33554432#32 else 0#32)) &&& 4193284223#32 = v &&& 4193284223#32 := by
  cases p <;> cases q <;> apply all32 <;> simp []
theorem xeL1 (v : BitVec 32) (d : BitVec 5) (s : BitVec 5)  (p q : Bool) : rf (((v &&& 4193284223#32) ||| (d.setWidth 32 <<< 7) ||| (s.setWidth 32 <<< 15)) ||| (if p = true then 67108864#32 else 0#32) ||| (if q = true then 33554432#32 else 0#32)) 7 = d := by
  cases p <;> cases q <;> apply all5 <;> simp [rf]
theorem xeL2 (v : BitVec 32) (d : BitVec 5) (s : BitVec 5)  (p q : Bool) : rf (((v &&& 4193284223#32) ||| (d.setWidth 32 <<< 7) ||| (s.setWidth 32 <<< 15)) ||| (if p = true then 67108864#32 else 0#32) ||| (if q = true then 33554432#32 else 0#32)) 15 = s := by
  cases p <;> cases q <;> apply all5 <;> simp [rf]
theorem xeL3 (v : BitVec 32) (d : BitVec 5) (s : BitVec 5)  (p q : Bool) : (((v &&& 4193284223#32) ||| (d.setWidth 32 <<< 7) ||| (s.setWidth 32 <<< 15)) ||| (if p = true then 67108864#32 else 0#32) ||| (if q = true then 33554432#32 else 0#32)).getLsbD 26 = p := by
  cases p <;> cases q <;> simp []
theorem xeL4 (v : BitVec 32) (d : BitVec 5) (s : BitVec 5)  (p q : Bool) : (((v &&& 4193284223#32) ||| (d.setWidth 32 <<< 7) ||| (s.setWidth 32 <<< 15)) ||| (if p = true then 67108864#32 else 0#32) ||| (if q = true then 33554432#32 else 0#32)).getLsbD 25 = q := by
  cases p <;> cases q <;> simp []
theorem xdL (b : BitVec 32) : ((b &&& 4193284223#32) ||| ((rf b 7).setWidth 32 <<< 7) ||| ((rf b 15).setWidth 32 <<< 15)) ||| (if b.getLsbD 26 = true then 67108864#32 else 0#32) ||| (if b.getLsbD 25 = true then 33554432#32 else 0#32) = b := by
  cases hp : b.getLsbD 26 <;> cases hq : b.getLsbD 25 <;> simp at hp hq <;> apply all32 <;> simp [rf, hp, hq]
theorem xeX0 (v : BitVec 32) (s : BitVec 5) (t : BitVec 5) : ((v &&& 4261445631#32) ||| (s.setWidth 32 <<< 15) ||| (t.setWidth 32 <<< 20)) &&& 4261445631#32 = v &&& 4261445631#32 := by
  apply all32 <;> simp []
theorem xeX1 (v : BitVec 32) (s : BitVec 5) (t : BitVec 5) : rf ((v &&& 4261445631#32) ||| (s.setWidth 32 <<< 15) ||| (t.setWidth 32 <<< 20)) 15 = s := by
  apply all5 <;> simp [rf]
theorem xeX2 (v : BitVec 32) (s : BitVec 5) (t : BitVec 5) : rf ((v &&& 4261445631#32) ||| (s.setWidth 32 <<< 15) ||| (t.setWidth 32 <<< 20)) 20 = t := by
  apply all5 <;> simp [rf]
theorem xdX (b : BitVec 32) : (b &&& 4261445631#32) ||| ((rf b 15).setWidth 32 <<< 15) ||| ((rf b 20).setWidth 32 <<< 20) = b := by
  apply all32 <;> simp [rf]

theorem cut_w (w : BitVec 64) (a s : Nat) (h : a + s ≤ 64) : cutU w a s = ((w >>> a).setWidth s).setWidth 64 := by
  refine (ofG_ext fun i hi => ?_).symm
  rw [BitVec.getLsbD_setWidth, BitVec.getLsbD_setWidth, BitVec.getLsbD_ushiftRight]
  by_cases h1 : i < s
  · have e : (a : Int) + (i : Nat) = ((a + i : Nat) : Int) := by omega
    rw [e, bitB_nat (by omega)]
    simp [hi, h1]
  · have e : ((i : Int) < (s : Int)) = False := by simp; omega
    simp [h1]
theorem cut_b (b : BitVec 32) (a s : Nat) (h : a + s ≤ 64) : cutU (b.setWidth 64) a s = ((b >>> a).setWidth s).setWidth 64 := by
  rw [cut_w _ _ _ h]
  apply BitVec.eq_of_getLsbD_eq
  intro i hi
  simp only [BitVec.getLsbD_setWidth, BitVec.getLsbD_ushiftRight]
  by_cases h1 : i < s
  · have : a + i < 64 := by omega
    simp [this]
  · simp [h1]
theorem shl_w (w : BitVec 64) (s : Nat) : shiftU w s = w <<< s := by
  refine (ofG_ext fun i hi => ?_).symm
  rw [BitVec.getLsbD_shiftLeft]
  by_cases h : i < s
  · rw [bitB_out (by omega)]; simp [h]
  · have e : (i : Int) - (s : Nat) = ((i - s : Nat) : Int) := by omega
    rw [e, bitB_nat (by omega)]; simp [h, hi]
theorem sign_w (w : BitVec 64) (s : Nat) (h : 1 ≤ s) (h' : s ≤ 64) : signU w s = (w.setWidth s).signExtend 64 := by
  refine (ofG_ext fun i hi => ?_).symm
  rw [BitVec.getLsbD_signExtend]
  have e : (s : Int) - 1 = ((s - 1 : Nat) : Int) := by omega
  have d : decide ((1 : Int) ≤ s) = true := by simp; omega
  rw [e, bitB_nat (by omega), d]
  by_cases h1 : i < s
  · simp [hi, h1]
  · simp [hi, h1, BitVec.msb_eq_getLsbD_last]
    intro; omega
theorem sxs {x : BitVec 12} : ((x.setWidth 64 <<< 1).setWidth 13).signExtend 64 = x.signExtend 64 <<< 1 := by
  apply BitVec.eq_of_getLsbD_eq
  intro i hi
  simp only [BitVec.getLsbD_signExtend, BitVec.getLsbD_shiftLeft, BitVec.getLsbD_setWidth, BitVec.msb_eq_getLsbD_last]
  by_cases h0 : i = 0
  · subst h0; simp
  by_cases h1 : i < 13
  · have : i - 1 < 12 := by omega
    simp [*]; try omega
  · have : ¬ i - 1 < 12 := by omega
    simp [*]; intro; omega
theorem sxj {x : BitVec 20} : ((x.setWidth 64 <<< 1).setWidth 21).signExtend 64 = x.signExtend 64 <<< 1 := by
  apply BitVec.eq_of_getLsbD_eq
  intro i hi
  simp only [BitVec.getLsbD_signExtend, BitVec.getLsbD_shiftLeft, BitVec.getLsbD_setWidth, BitVec.msb_eq_getLsbD_last]
  by_cases h0 : i = 0
  · subst h0; simp
  by_cases h1 : i < 21
  · have : i - 1 < 20 := by omega
    simp [*]; try omega
  · have : ¬ i - 1 < 20 := by omega
    simp [*]; intro; omega
theorem sxu {x : BitVec 20} : ((x.setWidth 64 <<< 12).setWidth 32).signExtend 64 = x.signExtend 64 <<< 12 := by
  apply BitVec.eq_of_getLsbD_eq
  intro i hi
  simp only [BitVec.getLsbD_signExtend, BitVec.getLsbD_shiftLeft, BitVec.getLsbD_setWidth, BitVec.msb_eq_getLsbD_last]
  by_cases h0 : i < 12
  · have : i < 32 := by omega
    simp [*]
  by_cases h1 : i < 32
  · have : i - 12 < 20 := by omega
    simp [*]; try omega
  · have : ¬ i - 12 < 20 := by omega
    simp [*]; intro; omega
theorem shl_of (k : Int) (n : Nat) : (BitVec.ofInt 64 k) <<< n = BitVec.ofInt 64 (k * 2 ^ n) := by
  rw [BitVec.shiftLeft_eq_mul_twoPow, BitVec.ofInt_mul]
  congr 1
  apply BitVec.eq_of_toNat_eq
  rw [BitVec.toNat_twoPow, BitVec.toNat_ofInt]
  have : (2 : Int) ^ n = ((2 ^ n : Nat) : Int) := by simp
  rw [this]
  omega
theorem toI_of {k : Int} (h : -9223372036854775808 ≤ k) (h' : k ≤ 9223372036854775807) : (BitVec.ofInt 64 k).toInt = k := by
  rw [BitVec.toInt_ofInt, Int.bmod_eq_of_le] <;> omega
theorem toI_sx {w n : Nat} (x : BitVec w) (m : Int) (hm : m = 2 ^ n) (h : w + n ≤ 64) (hw : 1 ≤ w) : (x.signExtend 64 <<< n).toInt = x.toInt * m := by
  have e : x.signExtend 64 = BitVec.ofInt 64 x.toInt := rfl
  rw [e, shl_of, hm]
  have a := BitVec.toInt_lt (x := x)
  have b := BitVec.le_toInt (x := x)
  have p : (2 : Int) ^ (w - 1) * 2 ^ n ≤ 2 ^ 63 := by
    rw [← Int.pow_add]
    have : (2 : Nat) ^ (w - 1 + n) ≤ 2 ^ 63 := Nat.pow_le_pow_right (by decide) (by omega)
    exact_mod_cast this
  have q : (0 : Int) < 2 ^ n := Int.pow_pos (by decide)
  have a' : x.toInt * 2 ^ n < 2 ^ (w - 1) * 2 ^ n := Int.mul_lt_mul_of_pos_right a q
  have b' : -(2 ^ (w - 1)) * 2 ^ n ≤ x.toInt * 2 ^ n := Int.mul_le_mul_of_nonneg_right b (by omega)
  rw [Int.neg_mul] at b'
  have z : (2 : Int) ^ 63 = 9223372036854775808 := by decide
  rw [z] at p
  exact toI_of (by omega) (by omega)
theorem toI_zx {w : Nat} (x : BitVec w) (h : w ≤ 32) : (x.setWidth 64).toInt = (x.toNat : Int) := by
  have l : x.toNat < 2 ^ 32 := Nat.lt_of_lt_of_le x.isLt (Nat.pow_le_pow_right (by decide) h)
  have z : (2 : Nat) ^ 32 = 4294967296 := by decide
  rw [BitVec.toInt_eq_toNat_of_lt (by rw [BitVec.toNat_setWidth]; omega), BitVec.toNat_setWidth]
  omega
theorem W_b (b : BitVec 32) : BitVec.ofInt 64 (b.toNat : Int) = b.setWidth 64 := by
  apply BitVec.eq_of_toNat_eq
  rw [BitVec.toNat_ofInt, BitVec.toNat_setWidth]
  have := b.isLt
  omega
theorem fld (b : BitVec 32) (a : Nat) (h : a ≤ 32) : (cutU (b.setWidth 64) a 5).toInt = ((rf b a).toNat : Int) := by
  have := cut_b b a 5 (by omega)
  rw [show ((5 : Nat) : Int) = 5 from rfl] at this
  rw [this, toI_zx _ (by decide)]
  rfl
/-- immediates of words -/
theorem immI (b : BitVec 32) : immT 2 (b.setWidth 64) = (getI b).toInt := by
  have e : immT 2 (b.setWidth 64) = (signU (b.setWidth 64 >>> 20) ((12 : Nat) : Int)).toInt := rfl
  rw [e, sign_w _ 12 (by decide) (by decide)]
  have k : (b.setWidth 64 >>> 20).setWidth 12 = getI b := by apply all12 <;> simp [getI]
  rw [k]
  have := toI_sx (n := 0) (getI b) 1 rfl (by decide) (by decide)
  simpa using this
theorem ga_1 (w : BitVec 64) (l : List Sc) : gaU w l 0 = 0#64 := rfl
theorem ga_s (w : BitVec 64) (l : List Sc) (k a s : Nat) (h1 : cellI (l.getD (2 * k) .any) = a) (h2 : cellI (l.getD (2 * k + 1) .any) = s) (h3 : 1 ≤ s) (h4 : s ≤ 64) : gaU w l (k + 1) = gaU w l k <<< s ||| cutU w a s := by
  rw [gaU, h1, h2, if_neg (by omega), show min (s : Int) 64 = (s : Int) by omega, shl_w]
theorem immS (b : BitVec 32) : immT 3 (b.setWidth 64) = (getS b).toInt := by
  have e : immT 3 (b.setWidth 64) = (signU (gaU (b.setWidth 64) [.i 25, .i 7, .i 7, .i 5] 2) ((12 : Nat) : Int)).toInt := rfl
  rw [e, sign_w _ 12 (by decide) (by decide), ga_s _ _ 1 7 5 rfl rfl (by decide) (by decide), ga_s _ _ 0 25 7 rfl rfl (by decide) (by decide), ga_1, cut_b _ _ _ (by decide), cut_b _ _ _ (by decide)]
  have k : ((0#64 <<< 7 ||| ((b >>> 25).setWidth 7).setWidth 64) <<< 5 ||| ((b >>> 7).setWidth 5).setWidth 64).setWidth 12 = getS b := by apply all12 <;> simp [getS]
  rw [k]
  have := toI_sx (n := 0) (getS b) 1 rfl (by decide) (by decide)
  simpa using this
theorem immB (b : BitVec 32) : immT 4 (b.setWidth 64) = (getB b).toInt * 2 := by
  have e : immT 4 (b.setWidth 64) = (signU ((gaU (b.setWidth 64) [.i 31, .i 1, .i 7, .i 1, .i 25, .i 6, .i 8, .i 4] 4) <<< 1) ((13 : Nat) : Int)).toInt := rfl
  rw [e, sign_w _ 13 (by decide) (by decide), ga_s _ _ 3 8 4 rfl rfl (by decide) (by decide), ga_s _ _ 2 25 6 rfl rfl (by decide) (by decide), ga_s _ _ 1 7 1 rfl rfl (by decide) (by decide), ga_s _ _ 0 31 1 rfl rfl (by decide) (by decide), ga_1, cut_b _ _ _ (by decide), cut_b _ _ _ (by decide), cut_b _ _ _ (by decide), cut_b _ _ _ (by decide)]
  have k : ((((0#64 <<< 1 ||| ((b >>> 31).setWidth 1).setWidth 64) <<< 1 ||| ((b >>> 7).setWidth 1).setWidth 64) <<< 6 ||| ((b >>> 25).setWidth 6).setWidth 64) <<< 4 ||| ((b >>> 8).setWidth 4).setWidth 64) = (getB b).setWidth 64 := by
    apply BitVec.eq_of_getLsbD_eq
    intro i hi
    rcases Nat.lt_or_ge i 12 with h | h
    · have : i = 0 ∨ i = 1 ∨ i = 2 ∨ i = 3 ∨ i = 4 ∨ i = 5 ∨ i = 6 ∨ i = 7 ∨ i = 8 ∨ i = 9 ∨ i = 10 ∨ i = 11 := by omega
      rcases this with rfl | rfl | rfl | rfl | rfl | rfl | rfl | rfl | rfl | rfl | rfl | rfl <;> simp [getB]
    · simp only [BitVec.getLsbD_or, BitVec.getLsbD_shiftLeft, BitVec.getLsbD_setWidth]
      have h4 : ¬ i - 4 < 6 := by omega
      have h5 : ¬ i < 4 := by omega
      have h6 : ¬ i - 4 - 6 < 1 := by omega
      have h7 : ¬ i - 4 - 6 - 1 < 1 := by omega
      have h8 : ¬ i < 12 := by omega
      simp [*]
  rw [k, sxs]
  exact toI_sx (n := 1) (getB b) 2 rfl (by decide) (by decide)
theorem immU (b : BitVec 32) : immT 5 (b.setWidth 64) = (getU b).toInt * 4096 := by
  have e : immT 5 (b.setWidth 64) = (signU (b.setWidth 64 &&& ~~~4095#64) ((32 : Nat) : Int)).toInt := rfl
  rw [e, sign_w _ 32 (by decide) (by decide)]
  have k : (b.setWidth 64 &&& ~~~4095#64).setWidth 32 = ((getU b).setWidth 64 <<< 12).setWidth 32 := by apply all32 <;> simp [getU]
  rw [k, sxu]
  exact toI_sx (n := 12) (getU b) 4096 rfl (by decide) (by decide)
theorem immJ (b : BitVec 32) : immT 6 (b.setWidth 64) = (getJ b).toInt * 2 := by
  have e : immT 6 (b.setWidth 64) = (signU ((gaU (b.setWidth 64) [.i 31, .i 1, .i 12, .i 8, .i 20, .i 1, .i 21, .i 10] 4) <<< 1) ((21 : Nat) : Int)).toInt := rfl
  rw [e, sign_w _ 21 (by decide) (by decide), ga_s _ _ 3 21 10 rfl rfl (by decide) (by decide), ga_s _ _ 2 20 1 rfl rfl (by decide) (by decide), ga_s _ _ 1 12 8 rfl rfl (by decide) (by decide), ga_s _ _ 0 31 1 rfl rfl (by decide) (by decide), ga_1, cut_b _ _ _ (by decide), cut_b _ _ _ (by decide), cut_b _ _ _ (by decide), cut_b _ _ _ (by decide)]
  have k : ((((0#64 <<< 1 ||| ((b >>> 31).setWidth 1).setWidth 64) <<< 8 ||| ((b >>> 12).setWidth 8).setWidth 64) <<< 1 ||| ((b >>> 20).setWidth 1).setWidth 64) <<< 10 ||| ((b >>> 21).setWidth 10).setWidth 64) = (getJ b).setWidth 64 := by
    apply BitVec.eq_of_getLsbD_eq
    intro i hi
    rcases Nat.lt_or_ge i 20 with h | h
    · have : i = 0 ∨ i = 1 ∨ i = 2 ∨ i = 3 ∨ i = 4 ∨ i = 5 ∨ i = 6 ∨ i = 7 ∨ i = 8 ∨ i = 9 ∨ i = 10 ∨ i = 11 ∨ i = 12 ∨ i = 13 ∨ i = 14 ∨ i = 15 ∨ i = 16 ∨ i = 17 ∨ i = 18 ∨ i = 19 := by omega
      rcases this with rfl | rfl | rfl | rfl | rfl | rfl | rfl | rfl | rfl | rfl | rfl | rfl | rfl | rfl | rfl | rfl | rfl | rfl | rfl | rfl <;> simp [getJ]
    · simp only [BitVec.getLsbD_or, BitVec.getLsbD_shiftLeft, BitVec.getLsbD_setWidth]
      have h4 : ¬ i - 10 < 1 := by omega
      have h5 : ¬ i < 10 := by omega
      have h6 : ¬ i - 10 - 1 < 8 := by omega
      have h7 : ¬ i - 10 - 1 - 8 < 1 := by omega
      have h8 : ¬ i < 20 := by omega
      simp [*]
  rw [k, sxj]
  exact toI_sx (n := 1) (getJ b) 2 rfl (by decide) (by decide)
theorem immH (b : BitVec 32) : immT 7 (b.setWidth 64) = ((getH b).toNat : Int) := by
  have e : immT 7 (b.setWidth 64) = (cutU (b.setWidth 64) ((20 : Nat) : Int) ((6 : Nat) : Int)).toInt := rfl
  rw [e, cut_b _ _ _ (by decide), toI_zx _ (by decide)]; rfl
theorem immW (b : BitVec 32) : immT 8 (b.setWidth 64) = ((getW b).toNat : Int) := by
  have e : immT 8 (b.setWidth 64) = (cutU (b.setWidth 64) ((20 : Nat) : Int) ((5 : Nat) : Int)).toInt := rfl
  rw [e, cut_b _ _ _ (by decide), toI_zx _ (by decide)]; rfl
end
end Go.Proofs.Ytcfnfdafcfpohaa
