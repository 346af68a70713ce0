/- Layer 17: the chapter's example; a port that isn't there: contracts. -/
import Derived.Test.YtfddaaplnnlfoaaU6
namespace Go.Proofs.Ytfddaaplnnlfoaa
open Go.Am
set_option linter.unusedSimpArgs false
set_option linter.unusedVariables false
noncomputable section

def s_usame0 (args : List AV) (H : AH) : Option AV :=
  match args with
  | [.c .nilp, .c .nilp] => some (.c (.b true))
  | [.c .nilp, .c (.p _ 0 0)] => some (.c (.b false))
  | [.c (.p _ 0 0), .c .nilp] => some (.c (.b false))
  | _ => none
theorem s_usame0_1 {H : AH} : s_usame0 [.c .nilp, .c .nilp] H = some (.c (.b true)) := rfl
theorem s_usame0_2 {id : Nat} {H : AH} : s_usame0 [.c .nilp, .c (.p id 0 0)] H = some (.c (.b false)) := rfl
theorem s_usame0_3 {id : Nat} {H : AH} : s_usame0 [.c (.p id 0 0), .c .nilp] H = some (.c (.b false)) := rfl
set_option maxRecDepth 100000 in
set_option maxHeartbeats 2000000 in
theorem ok_usame0 : FpOk Try.prog 40 (fun args H => (s_usame0 args H).map fun v => (v, H)) := by
  refine fq_ok (s := s_usame0) (tab := []) hmix TabOk.nil Try.func40 rfl Try.results40 Try.ntmps40 (by kernel_rfl) (by kernel_rfl) ?_
  intro args H v h hargs hH
  unfold s_usame0 at h
  split at h
  all_goals first
    | (simp at h; done)
    | (simp only [Option.some.injEq] at h
       subst h
       refine ⟨by simp only [List.length_cons, List.length_nil]; decide, rfl, ?_⟩
       (try simp (config := { maxSteps := 10000000 }) only [go_sem, seval]; repeat (simp (disch := omega) only [w64_d, ipos, ineg, dpos, dneg]; try simp (config := { maxSteps := 10000000 }) only [go_sem, seval]))
       first | exact subH_refl _ | exact ⟨rfl, subH_refl _⟩)
def s_uclo0 (args : List AV) : Option AV :=
  match args with
  | [.c .nilp] => some (.c .nilp)
  | _ => none
theorem s_uclo0_eq : s_uclo0 [.c .nilp] = some (.c .nilp) := rfl
set_option maxRecDepth 100000 in
set_option maxHeartbeats 2000000 in
theorem ok_uclo0 : PuOk Try.prog 39 s_uclo0 := by
  refine pu_ok (tab := []) hmix TabOk.nil Try.func39 rfl Try.results39 Try.ntmps39 (by kernel_rfl) (by kernel_rfl) ?_
  intro args v h
  unfold s_uclo0 at h
  split at h
  · simp only [Option.some.injEq] at h; subst h
    refine ⟨by simp only [List.length_cons, List.length_nil]; decide, rfl, rfl, ?_⟩
    (try simp (config := { maxSteps := 10000000 }) only [go_sem, seval]; repeat (simp (disch := omega) only [w64_d, ipos, ineg, dpos, dneg]; try simp (config := { maxSteps := 10000000 }) only [go_sem, seval]))
  · simp at h
/-- the example's steps -/
def exA : Po := { po0 with x := .sl 2 0 1 1 }
def exB : Po := { po0 with x := .sl 3 0 0 0 }
def exC : Po := { po0 with x := .sl 3 0 0 0, e := 2, em := true }
def exD : Po := { po0 with x := .sl 3 0 0 0, e := 2 }
theorem ex1 : s_unew [] [] = some (.c (.p 0 0 0), [.own (poC po0)]) := rfl
theorem ex2 : s_uinput [.c (.p 0 0 0), .c (.k .u8 65)] [.own (poC po0)] = some (.c (.b true), [.own (poC exA), .dead, .vec 1 [.k .u8 65]]) := rfl
theorem ex3 : s_uread [.c (.p 0 0 0), .c (.u 5#64)] [.own (poC exA), .dead, .vec 1 [.k .u8 65]] = some (.t [.c (.k .u8 97), .c (.b true)], [.own (poC exA), .dead, .vec 1 [.k .u8 65]]) := rfl
theorem ex4 : s_uread [.c (.p 0 0 0), .c (.u 0#64)] [.own (poC exA), .dead, .vec 1 [.k .u8 65]] = some (.t [.c (.k .u8 65), .c (.b true)], [.own (poC exB), .dead, .vec 1 [.k .u8 65], .vec 1 []]) := rfl
theorem ex5 : s_uwrite [.c (.p 0 0 0), .c (.u 1#64), .c (.k .u8 2)] [.own (poC exB), .dead, .vec 1 [.k .u8 65], .vec 1 []] = some (.c (.b true), [.own (poC exC), .dead, .vec 1 [.k .u8 65], .vec 1 []]) := rfl
theorem ex6 : s_uline [.c (.p 0 0 0)] [.own (poC exC), .dead, .vec 1 [.k .u8 65], .vec 1 []] = some (.c (.b true)) := rfl
theorem ex7 : s_uread [.c (.p 0 0 0), .c (.u 2#64)] [.own (poC exC), .dead, .vec 1 [.k .u8 65], .vec 1 []] = some (.t [.c (.k .u8 2), .c (.b true)], [.own (poC exD), .dead, .vec 1 [.k .u8 65], .vec 1 []]) := rfl
theorem ex8 : s_uline [.c (.p 0 0 0)] [.own (poC exD), .dead, .vec 1 [.k .u8 65], .vec 1 []] = some (.c (.b false)) := rfl
theorem un1 {off : BitVec 64} {H : AH} : s_uread [.c .nilp, .c (.u off)] H = some (.t [.c (.k .u8 0), .c (.b false)], H) := rfl
theorem un2 {off : BitVec 64} {b : Int} {H : AH} : s_uwrite [.c .nilp, .c (.u off), .c (.k .u8 b)] H = some (.c (.b false), H) := rfl
theorem un3 {b : Int} {H : AH} : s_uinput [.c .nilp, .c (.k .u8 b)] H = some (.c (.b false), H) := rfl
theorem un4 {H : AH} : s_uline [.c .nilp] H = some (.c (.b false)) := rfl
theorem un5 {H : AH} : s_uwaiting [.c .nilp] H = some (.c .nils, H) := rfl
theorem un6 {H : AH} : s_uout [.c .nilp] H = some (.c .nils, H) := rfl
theorem un7 {H : AH} : s_unew [] H = some (.c (.p H.length 0 0), H ++ [.own (poC po0)]) := rfl
theorem fk_8 {s : Sc} (h : FitK s (.n .u8)) : ∃ x, s = .k .u8 x ∧ 0 ≤ x ∧ x ≤ 255 := by
  cases s with
  | k kd x =>
    simp only [FitK] at h
    obtain ⟨rfl, _, a, b⟩ := h
    exact ⟨x, rfl, a, b⟩
  | _ => simp [FitK] at h
end
end Go.Proofs.Ytfddaaplnnlfoaa
