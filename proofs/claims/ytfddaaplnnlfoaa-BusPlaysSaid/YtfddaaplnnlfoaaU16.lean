/- Layer 17: ports that are compared and copied: contracts. -/
import Derived.Test.YtfddaaplnnlfoaaU15
namespace Go.Proofs.Ytfddaaplnnlfoaa
open Go.Am
set_option linter.unusedSimpArgs false
set_option linter.unusedVariables false
noncomputable section

def s_fits (args : List AV) : Option AV :=
  match args with
  | [.c (.u off), .c (.i n)] => some (.c (.b (decide (off < 8#64) && decide (n = 1))))
  | _ => none
theorem s_fits_eq {off n} : s_fits [.c (.u off), .c (.i n)] = some (.c (.b (decide (off < 8#64) && decide (n = 1)))) := rfl
set_option maxRecDepth 100000 in
set_option maxHeartbeats 2000000 in
theorem ok_fits : PuOk Try.prog 63 s_fits := by
  refine pu_ok (tab := []) hmix TabOk.nil Try.func63 rfl Try.results63 Try.ntmps63 (by kernel_rfl) (by kernel_rfl) ?_
  intro args v h
  unfold s_fits at h
  split at h
  · rename_i off n
    simp only [Option.some.injEq] at h; subst h
    refine ⟨by simp only [List.length_cons, List.length_nil]; decide, rfl, rfl, ?_⟩
    by_cases h : off < 8#64 <;> by_cases h1 : n = 1
    all_goals (try simp (config := { maxSteps := 10000000 }) only [go_sem, seval, h, h1]; repeat (simp (disch := omega) only [w64_d, ipos, ineg, dpos, dneg]; try simp (config := { maxSteps := 10000000 }) only [go_sem, seval, h, h1]))
    all_goals rfl
  · simp at h
/-- a port of a heap -/
def ptD (H : AH) (id : Nat) : Option (Pt × Sc × Sc) :=
  match poD (hg H id) with
  | some p =>
    match slD 1 dc8 H p.x, slD 1 dc8 H p.y with
    | some A, some B => some (⟨p.e, p.l, p.m, p.s, p.dl, p.dm, p.ff, p.lo, p.em, A, B⟩, p.x, p.y)
    | _, _ => none
  | none => none
theorem ptD_of {H : AH} {h : Nat} {t : Pt} {x y : Sc} (hP : PI H h t x y) : ptD H h = some (t, x, y) := by
  unfold ptD
  rw [hP.po]
  simp only
  rw [show (poOf t x y).x = x from rfl, show (poOf t x y).y = y from rfl, bsx_slD hP.hx, bsx_slD hP.hy]
  rfl
theorem ptD_inv {H : AH} {id : Nat} {t : Pt} {x y : Sc} (h : ptD H id = some (t, x, y)) : hg H id = .own (poC (poOf t x y)) ∧ slD 1 dc8 H x = some t.A ∧ slD 1 dc8 H y = some t.B := by
  unfold ptD at h
  split at h
  · rename_i p hp
    split at h
    · rename_i A B hA hB
      simp only [Option.some.injEq, Prod.mk.injEq] at h
      obtain ⟨rfl, rfl, rfl⟩ := h
      exact ⟨poD_inv hp, hA, hB⟩
    · simp at h
  · simp at h
theorem Wk.fre {n : Nat} {fr fr' : Fr} {H H' : AH} (hh : H = H') (hf : ∀ p ∈ fr', Am.get fr p.1 = p.2) : Wk n fr H (fr', H') := by subst hh; exact Wk.fr hf
def f1 (q : Bool) : Int := if q = true then 1 else 0
def numC (t : Pt) : List Sc := [.k .u8 t.e, .k .u8 t.l, .k .u8 t.m, .k .u8 t.s, .k .u8 t.dl, .k .u8 t.dm, .k .u8 (f1 t.ff), .k .u8 (f1 t.lo), .k .u8 (f1 t.em)]
def s_unum (args : List AV) (H : AH) : Option AV :=
  match args with
  | [.c (.p id 0 0)] =>
    match ptD H id with
    | some (t, _, _) => some (.g (numC t))
    | none => none
  | _ => none
theorem s_unum_eq {id : Nat} {H : AH} {t : Pt} {x y : Sc} (h : ptD H id = some (t, x, y)) : s_unum [.c (.p id 0 0)] H = some (.g (numC t)) := by
  simp only [s_unum, h]
def numF (t : Pt) (k : Nat) : List Sc := [.k .u8 t.e, .k .u8 t.l, .k .u8 t.m, .k .u8 t.s, .k .u8 t.dl, .k .u8 t.dm, .k .u8 (if 0 < k then f1 t.ff else 0), .k .u8 (if 1 < k then f1 t.lo else 0), .k .u8 (if 2 < k then f1 t.em else 0)]
set_option maxHeartbeats 4000000 in
set_option maxRecDepth 100000 in
set_option maxHeartbeats 2000000 in
theorem ok_unum : FpOk Try.prog 73 (fun args H => (s_unum args H).map fun v => (v, H)) := by
  refine fq_ok (s := s_unum) (tab := []) hmix TabOk.nil Try.func73 rfl Try.results73 Try.ntmps73 (by kernel_rfl) (by kernel_rfl) ?_
  intro args H v h hargs hH
  unfold s_unum at h
  split at h
  · rename_i id
    split at h
    · rename_i t x y ht
      obtain ⟨hm, hA, hB⟩ := ptD_inv ht
      simp only [Option.some.injEq] at h
      subst h
      refine ⟨by simp only [List.length_cons, List.length_nil]; decide, rfl, ?_⟩
      have lid : id < H.length := hg_lt (by rw [hm]; rfl)
      have gx : ∀ X, hg (H ++ X) id = _ := fun X => (hg_app lid).trans hm
      simp only [poC, poOf] at gx hm
      rcases sl_cases hA with ⟨rfl, hA'⟩ | ⟨i, v', rfl, hv, hcs⟩ <;> rcases sl_cases hB with ⟨rfl, hB'⟩ | ⟨i2, v2, rfl, hv2, hcs2⟩
      all_goals (try simp (config := { maxSteps := 10000000 }) only [go_sem, seval, gx, hm]; repeat (simp (disch := omega) only [w64_d, ipos, ineg, dpos, dneg]; try simp (config := { maxSteps := 10000000 }) only [go_sem, seval, gx, hm]))
      all_goals refine ⟨by (repeat' apply And.intro) <;> (intro e; omega), ?_⟩
      all_goals refine arun_for 3 (fun k => ([(0, .c (.p id 0 0)), (2, .c (.p H.length 0 0)), (3, .c (.p (H.length + 1) 0 0)), (43, .g [.b t.ff, .b t.lo, .b t.em]), (44, .c (.i k))], H ++ [.own [.k .u8 0, .k .u8 0, .k .u8 0, .k .u8 0, .k .u8 0, .k .u8 0, .k .u8 0, .k .u8 0, .k .u8 0], .own (numF t k)])) (Wk.fre (by simp [numF]) (by simp [Am.get])) fun k hk => ?_
      all_goals rcases (by omega : k = 0 ∨ k = 1 ∨ k = 2 ∨ k = 3) with rfl | rfl | rfl | rfl
      all_goals cases hf : t.ff <;> cases hl : t.lo <;> cases he : t.em
      all_goals (try simp (config := { maxSteps := 10000000 }) only [go_sem, seval, numF, f1, hf, hl, he, Nat.lt_irrefl]; repeat (simp (disch := omega) only [w64_d, ipos, ineg, dpos, dneg]; try simp (config := { maxSteps := 10000000 }) only [go_sem, seval, numF, f1, hf, hl, he, Nat.lt_irrefl]))
      all_goals first
        | exact subH_app _ _
        | exact ⟨by simp [numC, f1, hf, hl, he], subH_app _ _⟩
        | exact ⟨1, by omega, by omega, Wk.fre (by simp [numF, f1, hf, hl, he]) (by simp [Am.get])⟩
        | exact ⟨2, by omega, by omega, Wk.fre (by simp [numF, f1, hf, hl, he]) (by simp [Am.get])⟩
        | exact ⟨3, by omega, by omega, Wk.fre (by simp [numF, f1, hf, hl, he]) (by simp [Am.get])⟩
     
    · simp at h
  · simp at h
/-- numbers of bytes alone -/
def all8 (A : List Int) : Bool := A.all fun n => decide (by8 n)
theorem byl (A : List Int) : byL (A.flatMap enc8) = some A := by
  induction A with
  | nil => rfl
  | cons a A ih =>
    show (byL (A.flatMap enc8)).map (a :: ·) = _
    rw [ih]; rfl
theorem u8_inj {a b : Int} (ha : by8 a) (hb : by8 b) (h : UInt8.ofNat a.toNat = UInt8.ofNat b.toNat) : a = b := by
  unfold by8 at ha hb
  have := congrArg UInt8.toNat h
  rw [UInt8.toNat_ofNat', UInt8.toNat_ofNat'] at this
  omega
theorem strN_inj : ∀ {A B : List Int}, all8 A = true → all8 B = true → (strN A = strN B) = (A = B) := by
  intro A B hA hB
  apply propext
  constructor
  · intro h
    have h2 : (A.map fun n => UInt8.ofNat n.toNat) = B.map fun n => UInt8.ofNat n.toNat := by
      have := congrArg (fun s => s.data.toList) h
      simpa [strN] using this
    induction A generalizing B with
    | nil => cases B with
      | nil => rfl
      | cons b B => simp at h2
    | cons a A ih => cases B with
      | nil => simp at h2
      | cons b B =>
        simp only [List.map_cons, List.cons.injEq] at h2
        simp only [all8, List.all_cons, Bool.and_eq_true, decide_eq_true_eq] at hA hB
        rw [u8_inj hA.1 hB.1 h2.1, ih hA.2 hB.2 (by unfold strN; rw [h2.2]) h2.2]
  · intro h; rw [h]
def s_bequal (args : List AV) (H : AH) : Option AV :=
  match args with
  | [.c x, .c y] =>
    match slD 1 dc8 H x, slD 1 dc8 H y with
    | some A, some B => if all8 A = true ∧ all8 B = true then some (.c (.b (decide (A = B)))) else none
    | _, _ => none
  | _ => none
theorem s_bequal_eq {x y : Sc} {H : AH} {A B : List Int} (h1 : slD 1 dc8 H x = some A) (h2 : slD 1 dc8 H y = some B) (h3 : all8 A = true) (h4 : all8 B = true) : s_bequal [.c x, .c y] H = some (.c (.b (decide (A = B)))) := by
  simp only [s_bequal, h1, h2]; rw [if_pos ⟨h3, h4⟩]
set_option maxRecDepth 100000 in
set_option maxHeartbeats 2000000 in
theorem ok_bequal : FpOk Try.prog 74 (fun args H => (s_bequal args H).map fun v => (v, H)) := by
  refine fq_ok (s := s_bequal) (tab := []) hmix TabOk.nil Try.func74 rfl Try.results74 Try.ntmps74 (by kernel_rfl) (by kernel_rfl) ?_
  intro args H v h hargs hH
  unfold s_bequal at h
  split at h
  · rename_i x y
    split at h
    · rename_i A B hA hB
      split at h
      · rename_i hc
        simp only [Option.some.injEq] at h
        subst h
        refine ⟨by simp only [List.length_cons, List.length_nil]; decide, rfl, ?_⟩
        have inj := strN_inj hc.1 hc.2
        have lA := e8_len A
        have lB := e8_len B
        have bA := byl A
        have bB := byl B
        have tA : (A.flatMap enc8).take A.length = A.flatMap enc8 := List.take_of_length_le (by rw [e8_len]; exact Nat.le_refl _)
        have tB : (B.flatMap enc8).take B.length = B.flatMap enc8 := List.take_of_length_le (by rw [e8_len]; exact Nat.le_refl _)
        have b0 : byL [] = some [] := rfl
        rcases sl_cases hA with ⟨rfl, rfl⟩ | ⟨i, v', rfl, hv, hcs⟩ <;> rcases sl_cases hB with ⟨rfl, rfl⟩ | ⟨i2, v2, rfl, hv2, hcs2⟩
        · (try simp (config := { maxSteps := 10000000 }) only [go_sem, seval, b0, inj]; repeat (simp (disch := omega) only [w64_d, ipos, ineg, dpos, dneg]; try simp (config := { maxSteps := 10000000 }) only [go_sem, seval, b0, inj]))
          first | exact subH_refl _ | exact ⟨by simp, subH_refl _⟩
        · have hv2 := hv2.symm
          (try simp (config := { maxSteps := 10000000 }) only [go_sem, seval, b0, inj, hv2, hcs2, lB, bB, tB]; repeat (simp (disch := omega) only [w64_d, ipos, ineg, dpos, dneg]; try simp (config := { maxSteps := 10000000 }) only [go_sem, seval, b0, inj, hv2, hcs2, lB, bB, tB]))
          first | exact subH_refl _ | exact ⟨by simp, subH_refl _⟩
        · have hv := hv.symm
          (try simp (config := { maxSteps := 10000000 }) only [go_sem, seval, b0, inj, hv, hcs, lA, bA, tA]; repeat (simp (disch := omega) only [w64_d, ipos, ineg, dpos, dneg]; try simp (config := { maxSteps := 10000000 }) only [go_sem, seval, b0, inj, hv, hcs, lA, bA, tA]))
          first | exact subH_refl _ | exact ⟨by simp, subH_refl _⟩
        · have hv := hv.symm
          have hv2 := hv2.symm
          (try simp (config := { maxSteps := 10000000 }) only [go_sem, seval, inj, hv, hcs, lA, bA, tA, hv2, hcs2, lB, bB, tB]; repeat (simp (disch := omega) only [w64_d, ipos, ineg, dpos, dneg]; try simp (config := { maxSteps := 10000000 }) only [go_sem, seval, inj, hv, hcs, lA, bA, tA, hv2, hcs2, lB, bB, tB]))
          first | exact subH_refl _ | exact ⟨by simp, subH_refl _⟩
      · simp at h
    · simp at h
  · simp at h
end
end Go.Proofs.Ytfddaaplnnlfoaa
