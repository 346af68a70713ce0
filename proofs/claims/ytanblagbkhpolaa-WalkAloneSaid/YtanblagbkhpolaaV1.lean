/- Contracts of layer 26, and of its reference. -/
import Derived.Test.YtanblagbkhpolaaR2
import Derived.Test.YtanblagbkhpolaaB2
namespace Go.Proofs.Ytanblagbkhpolaa
open Go.Am
set_option linter.unusedSimpArgs false
set_option linter.unusedVariables false
noncomputable section

def thB (l : Int) : Bool := decide (0 ≤ l) && decide (l ≤ 2)
theorem thB_t {l : Int} (h : 0 ≤ l ∧ l ≤ 2) : thB l = true := by simp [thB, h]
theorem thB_f {l : Int} (h : ¬ (0 ≤ l ∧ l ≤ 2)) : thB l = false := by simp [thB]; omega
def s_there (args : List AV) : Option AV :=
  match args with
  | [.c (.i l)] => some (.c (.b (thB l)))
  | _ => none
theorem s_there_eq {l} : s_there [.c (.i l)] = some (.c (.b (thB l))) := rfl
set_option maxRecDepth 100000 in
set_option maxHeartbeats 2000000 in
theorem ok_there : PuOk Try.prog 51 s_there := by
  refine pu_ok (tab := []) hmix TabOk.nil Try.func51 rfl Try.results51 Try.ntmps51 (by kernel_rfl) (by kernel_rfl) ?_
  intro args v h
  unfold s_there at h
  split at h
  · rename_i l
    simp only [Option.some.injEq] at h; subst h
    refine ⟨by simp only [List.length_cons, List.length_nil]; decide, rfl, rfl, ?_⟩
    by_cases h : 0 ≤ l
    · simp (config := { maxSteps := 10000000 }) only [go_sem, seval, thB, h]
    · simp (config := { maxSteps := 10000000 }) only [go_sem, seval, thB, h]
  · simp at h
def s_vlow (args : List AV) : Option AV :=
  match args with
  | [.c (.i l)] => if 0 ≤ l ∧ l ≤ 2 then some (.c (.i (12 + 9 * l))) else none
  | _ => none
theorem s_vlow_eq {l} : s_vlow [.c (.i l)] = if 0 ≤ l ∧ l ≤ 2 then some (.c (.i (12 + 9 * l))) else none := rfl
set_option maxRecDepth 100000 in
set_option maxHeartbeats 2000000 in
theorem ok_vlow : PuOk Try.prog 79 s_vlow := by
  refine pu_ok (tab := []) hmix TabOk.nil Try.func79 rfl Try.results79 Try.ntmps79 (by kernel_rfl) (by kernel_rfl) ?_
  intro args v h
  unfold s_vlow at h
  split at h
  · rename_i l
    split at h
    · rename_i hc
      simp only [Option.some.injEq] at h; subst h
      refine ⟨by simp only [List.length_cons, List.length_nil]; decide, rfl, rfl, ?_⟩
      have e1 : w64 (9 * l) = 9 * l := w64_of (by omega)
      have e2 : w64 (12 + 9 * l) = 12 + 9 * l := w64_of (by omega)
      simp (config := { maxSteps := 10000000 }) only [go_sem, seval, e1, e2]
    · simp at h
  · simp at h
def s_vmay (args : List AV) : Option AV :=
  match args with
  | [.c (.u v)] => some (.c (.b (decide (signU v 39 = v))))
  | _ => none
theorem s_vmay_eq {v} : s_vmay [.c (.u v)] = some (.c (.b (decide (signU v 39 = v)))) := rfl
set_option maxRecDepth 100000 in
set_option maxHeartbeats 2000000 in
theorem ok_vmay : PuOk Try.prog 26 s_vmay := by
  refine pu_ok (tab := [(53, .pu s_sign)]) hmix (TabOk.cons (e := .pu s_sign) ok_sign TabOk.nil) Try.func26 rfl Try.results26 Try.ntmps26 (by kernel_rfl) (by kernel_rfl) ?_
  intro args v h
  unfold s_vmay at h
  split at h
  · rename_i v
    simp only [Option.some.injEq] at h; subst h
    refine ⟨by simp only [List.length_cons, List.length_nil]; decide, rfl, rfl, ?_⟩
    have i1 : inR 39 := ⟨by omega, by omega⟩
    simp (config := { maxSteps := 10000000 }) only [go_sem, seval, s_sign_eq, i1]
  · simp at h
def placeU (v : BitVec 64) (l : Int) : Int := if thB l = true then (cutU v (12 + 9 * l) 9).toInt else 0
def vsizeU (l : Int) : BitVec 64 := if thB l = true then 1#64 <<< (12 + 9 * l).toNat else 0#64
def vpageU (v : BitVec 64) (l : Int) : BitVec 64 := if thB l = true then v &&& ~~~(vsizeU l - 1#64) else v
def ventryU (p v : BitVec 64) (l : Int) : BitVec 64 := if thB l = true then lowU p 44 <<< 12 ||| BitVec.ofInt 64 (placeU v l) <<< 3 else 0#64
def s_vplace (args : List AV) : Option AV :=
  match args with
  | [.c (.u v), .c (.i l)] => some (.c (.i (placeU v l)))
  | _ => none
theorem s_vplace_eq {v l} : s_vplace [.c (.u v), .c (.i l)] = some (.c (.i (placeU v l))) := rfl
set_option maxRecDepth 100000 in
set_option maxHeartbeats 2000000 in
theorem ok_vplace : PuOk Try.prog 77 s_vplace := by
  refine pu_ok (tab := [(51, .pu s_there), (79, .pu s_vlow), (50, .pu s_cut)]) hmix (TabOk.cons (e := .pu s_there) ok_there (TabOk.cons (e := .pu s_vlow) ok_vlow (TabOk.cons (e := .pu s_cut) ok_cut TabOk.nil))) Try.func77 rfl Try.results77 Try.ntmps77 (by kernel_rfl) (by kernel_rfl) ?_
  intro args v h
  unfold s_vplace at h
  split at h
  · rename_i v l
    simp only [Option.some.injEq] at h; subst h
    refine ⟨by simp only [List.length_cons, List.length_nil]; decide, rfl, rfl, ?_⟩
    by_cases h : 0 ≤ l ∧ l ≤ 2
    · have i1 : inR (12 + 9 * l) := ⟨by omega, by omega⟩
      have i2 : inR 9 := ⟨by omega, by omega⟩
      have hh := h
      obtain ⟨h1, h2⟩ := hh
      simp (config := { maxSteps := 10000000 }) only [go_sem, seval, s_there_eq, s_vlow_eq, s_cut_eq, thB_t h, placeU, h1, h2, i1, i2]
    · simp (config := { maxSteps := 10000000 }) only [go_sem, seval, s_there_eq, s_vlow_eq, s_cut_eq, thB_f h, placeU]
  · simp at h
def s_vsize (args : List AV) : Option AV :=
  match args with
  | [.c (.i l)] => some (.c (.u (vsizeU l)))
  | _ => none
theorem s_vsize_eq {l} : s_vsize [.c (.i l)] = some (.c (.u (vsizeU l))) := rfl
set_option maxRecDepth 100000 in
set_option maxHeartbeats 2000000 in
theorem ok_vsize : PuOk Try.prog 52 s_vsize := by
  refine pu_ok (tab := [(51, .pu s_there), (79, .pu s_vlow)]) hmix (TabOk.cons (e := .pu s_there) ok_there (TabOk.cons (e := .pu s_vlow) ok_vlow TabOk.nil)) Try.func52 rfl Try.results52 Try.ntmps52 (by kernel_rfl) (by kernel_rfl) ?_
  intro args v h
  unfold s_vsize at h
  split at h
  · rename_i l
    simp only [Option.some.injEq] at h; subst h
    refine ⟨by simp only [List.length_cons, List.length_nil]; decide, rfl, rfl, ?_⟩
    by_cases h : 0 ≤ l ∧ l ≤ 2
    · have hh := h
      obtain ⟨h1, h2⟩ := hh
      obtain ⟨n, hn⟩ := Int.eq_ofNat_of_zero_le (by omega : 0 ≤ 12 + 9 * l)
      have e2 := ofI_nat (n := n) (by omega)
      have e3 : (12 + 9 * l).toNat = n := by omega
      simp (config := { maxSteps := 10000000 }) only [go_sem, seval, s_there_eq, s_vlow_eq, thB_t h, vsizeU, h1, h2, hn, e2]
    · simp (config := { maxSteps := 10000000 }) only [go_sem, seval, s_there_eq, s_vlow_eq, thB_f h, vsizeU]
  · simp at h
def s_vpage (args : List AV) : Option AV :=
  match args with
  | [.c (.u v), .c (.i l)] => some (.c (.u (vpageU v l)))
  | _ => none
theorem s_vpage_eq {v l} : s_vpage [.c (.u v), .c (.i l)] = some (.c (.u (vpageU v l))) := rfl
set_option maxRecDepth 100000 in
set_option maxHeartbeats 2000000 in
theorem ok_vpage : PuOk Try.prog 25 s_vpage := by
  refine pu_ok (tab := [(51, .pu s_there), (52, .pu s_vsize)]) hmix (TabOk.cons (e := .pu s_there) ok_there (TabOk.cons (e := .pu s_vsize) ok_vsize TabOk.nil)) Try.func25 rfl Try.results25 Try.ntmps25 (by kernel_rfl) (by kernel_rfl) ?_
  intro args v h
  unfold s_vpage at h
  split at h
  · rename_i v l
    simp only [Option.some.injEq] at h; subst h
    refine ⟨by simp only [List.length_cons, List.length_nil]; decide, rfl, rfl, ?_⟩
    by_cases h : 0 ≤ l ∧ l ≤ 2
    · simp (config := { maxSteps := 10000000 }) only [go_sem, seval, s_there_eq, s_vsize_eq, thB_t h, vpageU]
    · simp (config := { maxSteps := 10000000 }) only [go_sem, seval, s_there_eq, s_vsize_eq, thB_f h, vpageU]
  · simp at h
def s_ventry (args : List AV) : Option AV :=
  match args with
  | [.c (.u p), .c (.u v), .c (.i l)] => some (.c (.u (ventryU p v l)))
  | _ => none
theorem s_ventry_eq {p v l} : s_ventry [.c (.u p), .c (.u v), .c (.i l)] = some (.c (.u (ventryU p v l))) := rfl
set_option maxRecDepth 100000 in
set_option maxHeartbeats 2000000 in
theorem ok_ventry : PuOk Try.prog 48 s_ventry := by
  refine pu_ok (tab := [(51, .pu s_there), (47, .pu s_low), (77, .pu s_vplace)]) hmix (TabOk.cons (e := .pu s_there) ok_there (TabOk.cons (e := .pu s_low) ok_low (TabOk.cons (e := .pu s_vplace) ok_vplace TabOk.nil))) Try.func48 rfl Try.results48 Try.ntmps48 (by kernel_rfl) (by kernel_rfl) ?_
  intro args v h
  unfold s_ventry at h
  split at h
  · rename_i p v l
    simp only [Option.some.injEq] at h; subst h
    refine ⟨by simp only [List.length_cons, List.length_nil]; decide, rfl, rfl, ?_⟩
    have i1 : inR 44 := ⟨by omega, by omega⟩
    by_cases h : 0 ≤ l ∧ l ≤ 2
    · simp (config := { maxSteps := 10000000 }) only [go_sem, seval, s_there_eq, s_low_eq, s_vplace_eq, thB_t h, ventryU, i1]
    · simp (config := { maxSteps := 10000000 }) only [go_sem, seval, s_there_eq, s_low_eq, s_vplace_eq, thB_f h, ventryU]
  · simp at h
def asidI (s : BitVec 64) : Int := IntKind.u16.wrap ((s >>> 44).toNat : Int)
def satpU (m a : Int) (r : BitVec 64) : BitVec 64 := BitVec.ofInt 64 m <<< 60 ||| BitVec.ofInt 64 (IntKind.u16.wrap a) <<< 44 ||| lowU r 44
def transB (s : BitVec 64) (p : Int) : Bool := decide ((s >>> 60).toInt = 8) && (decide (p = 0) || decide (p = 1))

end
end Go.Proofs.Ytanblagbkhpolaa
