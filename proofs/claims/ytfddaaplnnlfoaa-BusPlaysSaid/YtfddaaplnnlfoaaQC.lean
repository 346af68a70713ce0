/- The devices of a bus: new controllers, what fits: contracts. -/
import Derived.Test.YtfddaaplnnlfoaaQ5
import Derived.Test.YtfddaaplnnlfoaaQB
namespace Go.Proofs.Ytfddaaplnnlfoaa
open Go.Am
set_option linter.unusedSimpArgs false
set_option linter.unusedVariables false
noncomputable section

def pkZ (n : Int) : Pk := ⟨n, List.replicate 32 0, 0#32, 0#32, 0#32, List.replicate 16 0#32, List.replicate 16 0⟩
def pkN (h : Int) : Pk := if 1 ≤ h ∧ h ≤ 8 then pkZ h else pkZ 0
theorem rep_0 (n k : Nat) : (List.replicate n (0 : Int)).getD k 0 = 0 := by
  rw [List.getD_eq_getElem?_getD, List.getElem?_replicate]
  split <;> rfl
theorem pkZ_ok {n : Int} (h0 : 0 ≤ n) (h1 : n ≤ 8) : PkOk (pkZ n) := ⟨rfl, rfl, rfl, h0, h1, fun k => by
  show 0 ≤ (List.replicate 32 (0 : Int)).getD k 0 ∧ (List.replicate 32 (0 : Int)).getD k 0 ≤ 7
  rw [rep_0]; decide, fun k => by
  show 0 ≤ (List.replicate 16 (0 : Int)).getD k 0 ∧ (List.replicate 16 (0 : Int)).getD k 0 ≤ 7
  rw [rep_0]; decide⟩
theorem pkN_ok (h : Int) : PkOk (pkN h) := by
  unfold pkN
  split
  · exact pkZ_ok (by omega) (by omega)
  · exact pkZ_ok (by decide) (by decide)
theorem ckP_one (x : Sc) (a : Ca) : Sc.one (ckP x a) = true := by
  unfold ckP
  split
  · split
    · rfl
    · split <;> rfl
  · rfl
def s_cfits (args : List AV) : Option AV :=
  match args with
  | [.c (.i h), .c (.u off), .c (.i sz)] => some (.c (.b (!decide ((ckAt (ckN h).n off sz).k = 0))))
  | _ => none
theorem s_cfits_eq {h off sz} : s_cfits [.c (.i h), .c (.u off), .c (.i sz)] = some (.c (.b (!decide ((ckAt (ckN h).n off sz).k = 0)))) := rfl
set_option maxRecDepth 100000 in
set_option maxHeartbeats 2000000 in
theorem ok_cfits : PuOk Try.prog 61 s_cfits := by
  refine pu_ok (tab := [(25, .pu s_cnew), (83, .fq s_cfind)]) hmix (TabOk.cons (e := .pu s_cnew) ok_cnew (TabOk.cons (e := .fq s_cfind) ok_cfind TabOk.nil)) Try.func61 rfl Try.results61 Try.ntmps61 (by kernel_rfl) (by kernel_rfl) ?_
  intro args v h
  unfold s_cfits at h
  split at h
  · rename_i h off sz
    simp only [Option.some.injEq] at h; subst h
    refine ⟨by simp only [List.length_cons, List.length_nil]; decide, rfl, rfl, ?_⟩
    have ok := ckN_ok h
    have q0 : ckQ [.own (ckC (ckN h))] (.p 0 0 0) = some (ckN h) := ckQ_of (A := []) (B := []) (id := 0) (by rw [List.append_nil]; rfl) ok
    have f0 := s_cfind_eq q0 (off := off) (sz := sz)
    have ll := ckC_l ok
    have one := ckC_one (ckN h)
    have o1 := ckP_one (.p 0 0 0) (ckAt (ckN h).n off sz)
    generalize ckP (.p 0 0 0) (ckAt (ckN h).n off sz) = P at *
    generalize (if (ckAt (ckN h).n off sz).k = 1 then ((ckAt (ckN h).n off sz).h : Int) else 0) = J at *
    unfold Sc.one at o1
    (try simp (config := { maxSteps := 10000000 }) only [go_sem, seval, s_cnew_eq, s_cfind_eq, f0, ll, one, o1]; repeat (simp (disch := omega) only [w64_d, ipos, ineg, dpos, dneg]; try simp (config := { maxSteps := 10000000 }) only [go_sem, seval, s_cnew_eq, s_cfind_eq, f0, ll, one, o1]))
  · simp at h
theorem pkC_pf (x : Pk) : (pkC x).all Sc.pf = true := by
  simp only [pkC, List.all_cons, List.all_append, List.all_map, Bool.and_eq_true]
  exact ⟨rfl, List.all_eq_true.2 fun _ _ => rfl, rfl, rfl, rfl, List.all_eq_true.2 fun _ _ => rfl, List.all_eq_true.2 fun _ _ => rfl⟩
theorem pkC_one (x : Pk) : (pkC x).all Sc.one = true := by
  simp only [pkC, List.all_cons, List.all_append, List.all_map, Bool.and_eq_true]
  exact ⟨rfl, List.all_eq_true.2 fun _ _ => rfl, rfl, rfl, rfl, List.all_eq_true.2 fun _ _ => rfl, List.all_eq_true.2 fun _ _ => rfl⟩
theorem pkZ_eq (n : Int) : pkC (pkZ n) = .i n :: (List.replicate 32 (k8 0) ++ (w32 0#32 :: w32 0#32 :: w32 0#32 :: (List.replicate 16 (w32 0#32) ++ List.replicate 16 (k8 0)))) := by simp [pkC, pkZ]
def s_pnew (args : List AV) : Option AV :=
  match args with
  | [.c (.i h)] => some (.g (pkC (pkN h)))
  | _ => none
theorem s_pnew_eq {h} : s_pnew [.c (.i h)] = some (.g (pkC (pkN h))) := rfl
set_option maxRecDepth 100000 in
set_option maxHeartbeats 2000000 in
theorem ok_pnew : PuOk Try.prog 26 s_pnew := by
  refine pu_ok (tab := []) hmix TabOk.nil Try.func26 rfl Try.results26 Try.ntmps26 (by kernel_rfl) (by kernel_rfl) ?_
  intro args v h
  unfold s_pnew at h
  split at h
  · rename_i h
    simp only [Option.some.injEq] at h; subst h
    have pp := pkC_pf (pkN h)
    refine ⟨by simp only [List.length_cons, List.length_nil]; decide, by first | rfl | simp only [List.all_cons, List.all_nil, AV.pf, Sc.pf, Bool.and_true, *], by first | rfl | simp only [List.all_cons, List.all_nil, AV.pf, Sc.pf, Bool.and_true, *], ?_⟩
    have e0 : pkC (pkZ 0) = pkC (pkZ 0) := rfl
    by_cases c1 : h < 1
    · have e : pkN h = pkZ 0 := if_neg (by omega)
      rw [e]
      (try simp (config := { maxSteps := 10000000 }) only [go_sem, seval, c1]; repeat (simp (disch := omega) only [w64_d, ipos, ineg, dpos, dneg]; try simp (config := { maxSteps := 10000000 }) only [go_sem, seval, c1]))
      rfl
    by_cases c2 : 8 < h
    · have e : pkN h = pkZ 0 := if_neg (by omega)
      rw [e]
      (try simp (config := { maxSteps := 10000000 }) only [go_sem, seval, c1, c2]; repeat (simp (disch := omega) only [w64_d, ipos, ineg, dpos, dneg]; try simp (config := { maxSteps := 10000000 }) only [go_sem, seval, c1, c2]))
      rfl
    have e : pkN h = pkZ h := by unfold pkN; rw [if_pos (by omega)]
    rw [e]
    (try simp (config := { maxSteps := 10000000 }) only [go_sem, seval, c1, c2]; repeat (simp (disch := omega) only [w64_d, ipos, ineg, dpos, dneg]; try simp (config := { maxSteps := 10000000 }) only [go_sem, seval, c1, c2]))
    rfl
  · simp at h
def s_pfits (args : List AV) : Option AV :=
  match args with
  | [.c (.i h), .c (.u off), .c (.i sz)] => some (.c (.b (!decide ((plAt (pkN h).n off sz).k = 0))))
  | _ => none
theorem s_pfits_eq {h off sz} : s_pfits [.c (.i h), .c (.u off), .c (.i sz)] = some (.c (.b (!decide ((plAt (pkN h).n off sz).k = 0)))) := rfl
set_option maxRecDepth 100000 in
set_option maxHeartbeats 2000000 in
theorem ok_pfits : PuOk Try.prog 62 s_pfits := by
  refine pu_ok (tab := [(26, .pu s_pnew), (84, .fq s_pfind)]) hmix (TabOk.cons (e := .pu s_pnew) ok_pnew (TabOk.cons (e := .fq s_pfind) ok_pfind TabOk.nil)) Try.func62 rfl Try.results62 Try.ntmps62 (by kernel_rfl) (by kernel_rfl) ?_
  intro args v h
  unfold s_pfits at h
  split at h
  · rename_i h off sz
    simp only [Option.some.injEq] at h; subst h
    refine ⟨by simp only [List.length_cons, List.length_nil]; decide, rfl, rfl, ?_⟩
    have ok := pkN_ok h
    have q0 : pkQ [.own (pkC (pkN h))] (.p 0 0 0) = some (pkN h) := pkQ_of (A := []) (B := []) (id := 0) (by rw [List.append_nil]; rfl) ok
    have f0 := s_pfind_eq q0 (off := off) (sz := sz)
    have ll := pkC_l ok
    have one := pkC_one (pkN h)
    (try simp (config := { maxSteps := 10000000 }) only [go_sem, seval, s_pnew_eq, s_pfind_eq, f0, ll, one]; repeat (simp (disch := omega) only [w64_d, ipos, ineg, dpos, dneg]; try simp (config := { maxSteps := 10000000 }) only [go_sem, seval, s_pnew_eq, s_pfind_eq, f0, ll, one]))
  · simp at h
end
end Go.Proofs.Ytfddaaplnnlfoaa
