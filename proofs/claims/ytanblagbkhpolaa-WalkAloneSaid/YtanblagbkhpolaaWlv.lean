/- Layer 27: what must be whatever is asked: contract. -/
import Derived.Test.YtanblagbkhpolaaWk2
namespace Go.Proofs.Ytanblagbkhpolaa
open Go.Am
set_option linter.unusedSimpArgs false
set_option linter.unusedVariables false
noncomputable section

theorem s_wtell_eqn {H : AH} {x : Sc} {d : BitVec 64} {g : Bool} {m : List Sc} : s_wtell [.c x, .g (.u d :: .b g :: m)] H = if m.length = 40 ∧ m.all Sc.one = true then (wkO H x).map fun r => (.t [], match r with | none => H | some (id, s) => H.set id (.own (wkC (tellW s d g)))) else none := rfl
theorem s_wask_eqn {H : AH} {x : Sc} : s_wask [.c x] H = (wkO H x).map fun r => .t [.g (match r with | none => askC 0 0#64 0 0#64 0#64 | some (_, s) => askW s), .c (.b (match r with | none => false | some (_, s) => !endedW s))] := rfl
theorem s_wend_eqn {H : AH} {x : Sc} : s_wend [.c x] H = (wkO H x).map fun r => .t [.c (.i (match r with | none => 2 | some (_, s) => endI s)), .g (match r with | none => entC 0#64 0 0#64 | some (_, s) => endE s)] := rfl
theorem s_wagain_eqn {H : AH} {x : Sc} : s_wagain [.c x] H = (wkO H x).map fun r => .c (.i (match r with | none => 0 | some (_, s) => s.ag)) := rfl
theorem s_wquest_eqn {H : AH} {x : Sc} : s_wquest [.c x] H = (wkO H x).map fun r => .g (match r with | none => q0 | some (_, s) => qC s) := rfl
theorem wkC_len (s : Wst) : (wkC s).length = 14 := rfl
theorem wkC_one (s : Wst) : (wkC s).all Sc.one = true := rfl
theorem wkC_take (s : Wst) : (wkC s).take 14 = wkC s := rfl
def lw0 : Wst := ⟨true, 1, 524288#64, 0#64, 1, 1, false, false, 0, 2, 2147483648#64, 0#64, false, 0⟩
def lw1 : Wst := ⟨true, 1, 524288#64, 0#64, 1, 1, false, false, 1, 2, 2147483648#64, 67#64, false, 0⟩
theorem live_w : ventryU 524288#64 0#64 2 = 2147483648#64 ∧ signU 0#64 39 = 0#64 ∧ kindU 67#64 2 = 2 ∧ letsB 67#64 1 1 false false = true ∧ markU 67#64 1 = 67#64 ∧ vpageU 0#64 2 = 0#64 := by
  refine ⟨?_, ?_, ?_, ?_, ?_, ?_⟩
  · simp only [ventryU, lowU, placeU, cutU, ofG_eqn]; decide +kernel
  · simp only [signU, ofG_eqn]; decide +kernel
  · simp only [kindU, lowU, cutU, ofG_eqn]; decide +kernel
  · decide +kernel
  · decide +kernel
  · decide +kernel
theorem lw0_b : beginW 1 524288#64 0#64 1 1 false false = lw0 := by
  obtain ⟨h1, h2, h3, h4, h5, h6⟩ := live_w
  have hh : hasW 1 2147483648#64 = true := by decide +kernel
  unfold beginW
  rw [if_pos h2]
  unfold startW lookW
  simp only [h1, hh, if_true]
  rfl
theorem lw1_t : tellW lw0 67#64 false = lw1 := by
  obtain ⟨h1, h2, h3, h4, h5, h6⟩ := live_w
  unfold tellW
  rw [if_neg (by decide), if_neg (by decide)]
  have e1 : lw0.lv = 2 := rfl
  have e2 : lw0.ac = 1 := rfl
  have e3 : lw0.pr = 1 := rfl
  have e4 : lw0.su = false := rfl
  have e5 : lw0.mx = false := rfl
  rw [e1, e2, e3, e4, e5, h3, h4, h5]
  rfl
theorem lw_v : askW lw0 = askC 7 2147483648#64 8 0#64 0#64 ∧ endedW lw0 = false ∧ endI lw1 = 1 ∧ endE lw1 = entC 0#64 2 67#64 := by
  refine ⟨rfl, rfl, rfl, ?_⟩
  unfold endE
  rw [if_pos ⟨rfl, rfl⟩]
  have e1 : lw1.lv = 2 := rfl
  have e2 : lw1.va = 0#64 := rfl
  rw [e1, e2, live_w.2.2.2.2.2]
  rfl
theorem wkO_0 {X : AH} {s : Wst} : wkO (.own (wkC s) :: X) (.p 0 0 0) = some (some (0, s)) := wkO_of rfl
def s_wlive (args : List AV) : Option AV :=
  match args with
  | [] => some (.c (.b true))
  | _ => none
theorem s_wlive_eq : s_wlive [] = some (.c (.b true)) := rfl
set_option maxRecDepth 100000 in
set_option maxHeartbeats 2000000 in
theorem ok_wlive : PuOk Try.prog 10 s_wlive := by
  refine pu_ok (tab := [(11, .pu s_wbegin), (6, .fq s_wask), (5, .fp s_wtell), (7, .fq s_wend)]) hmix (TabOk.cons (e := .pu s_wbegin) ok_wbegin (TabOk.cons (e := .fq s_wask) ok_wask (TabOk.cons (e := .fp s_wtell) ok_wtell (TabOk.cons (e := .fq s_wend) ok_wend TabOk.nil)))) Try.func10 rfl Try.results10 Try.ntmps10 (by kernel_rfl) (by kernel_rfl) ?_
  intro args v h
  unfold s_wlive at h
  split at h
  · simp only [Option.some.injEq] at h; subst h
    refine ⟨by simp only [List.length_cons, List.length_nil]; decide, rfl, rfl, ?_⟩
    obtain ⟨v1, v2, v3, v4⟩ := lw_v
    (try simp (config := { maxSteps := 10000000 }) only [go_sem, seval, s_wbegin_eq, lw0_b, wkC_len, wkC_one, wkC_take, s_wtell_eqn, s_wask_eqn, s_wend_eqn, wkO_0, lw1_t, v1, v2, v3, v4, askC, entC, Sc.one]; repeat (simp (disch := omega) only [w64_d, ipos, ineg, dpos, dneg]; try simp (config := { maxSteps := 10000000 }) only [go_sem, seval, s_wbegin_eq, lw0_b, wkC_len, wkC_one, wkC_take, s_wtell_eqn, s_wask_eqn, s_wend_eqn, wkO_0, lw1_t, v1, v2, v3, v4, askC, entC, Sc.one]))
  · simp at h
end
end Go.Proofs.Ytanblagbkhpolaa
