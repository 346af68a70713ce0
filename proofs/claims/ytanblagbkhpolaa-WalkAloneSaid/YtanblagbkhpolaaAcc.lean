/- An ask's access; which asks lay a number: contracts -/
import Derived.Test.YtanblagbkhpolaaE1
namespace Go.Proofs.Ytanblagbkhpolaa
open Go.Am
set_option linter.unusedSimpArgs false
set_option linter.unusedVariables false
noncomputable section

/-! ## XAc -/
theorem ask_of {l : List Sc} (h : L2 FitK l ksAsk) : ∃ (k : Int) (a b : BitVec 64) (c s : Int) (r : List Sc), l = .i k :: .u a :: .u b :: .i c :: .i s :: r ∧ r.length = 14 ∧ r.all Sc.pf = true := by
  obtain ⟨x1, r1, rfl, k1, h⟩ := fit_cons h
  obtain ⟨x2, r2, rfl, k2, h⟩ := fit_cons h
  obtain ⟨x3, r3, rfl, k3, h⟩ := fit_cons h
  obtain ⟨x4, r4, rfl, k4, h⟩ := fit_cons h
  obtain ⟨x5, r5, rfl, k5, h5⟩ := fit_cons h
  obtain ⟨k, rfl, _⟩ := fk_i k1
  obtain ⟨a, rfl⟩ := fk_u k2
  obtain ⟨b, rfl⟩ := fk_u k3
  obtain ⟨c, rfl, _⟩ := fk_i k4
  obtain ⟨s, rfl, _⟩ := fk_i k5
  exact ⟨k, a, b, c, s, r5, rfl, L2.length h5, (fit_all h5).2.1⟩
def s_saccess (args : List AV) : Option AV :=
  match args with
  | [.g (.i k :: .u a :: .u b :: .i c :: .i s :: r)] => if r.length = 14 ∧ r.all Sc.pf = true then some (.g [.u a, .u b, .i c, .i s]) else none
  | _ => none
theorem s_saccess_eq {k a b c s r} : s_saccess [.g (.i k :: .u a :: .u b :: .i c :: .i s :: r)] = if r.length = 14 ∧ r.all Sc.pf = true then some (.g [.u a, .u b, .i c, .i s]) else none := rfl
set_option maxRecDepth 100000 in
set_option maxHeartbeats 2000000 in
theorem ok_saccess : PuOk Try.prog 64 s_saccess := by
  refine pu_ok (tab := []) hmix TabOk.nil Try.func64 rfl Try.results64 Try.ntmps64 (by kernel_rfl) (by kernel_rfl) ?_
  intro args v h
  unfold s_saccess at h
  split at h
  · rename_i k a b c s r
    split at h
    · rename_i hc
      simp only [Option.some.injEq] at h; subst h
      have pr := hc.2
      refine ⟨by simp only [List.length_cons, List.length_nil]; decide, by first | rfl | simp only [List.all_cons, List.all_nil, AV.pf, Sc.pf, Bool.and_true, *], by first | rfl | simp only [List.all_cons, List.all_nil, AV.pf, Sc.pf, Bool.and_true, *], ?_⟩
      (try simp (config := { maxSteps := 10000000 }) only [go_sem, seval, hc.1]; repeat (simp (disch := omega) only [w64_d, ipos, ineg, dpos, dneg]; try simp (config := { maxSteps := 10000000 }) only [go_sem, seval, hc.1]))
    · simp at h
  · simp at h

/-- an ask's first nine cells -/
theorem ask9 {l : List Sc} (h : L2 FitK l ksAsk) : ∃ (k : Int) (a b : BitVec 64) (c s op : Int) (d o : BitVec 64) (lv : Bool) (r : List Sc), l = .i k :: .u a :: .u b :: .i c :: .i s :: .i op :: .u d :: .u o :: .b lv :: r ∧
    (r.length = 10 ∧ r.all Sc.pf = true ∧ r.all Sc.one = true) ∧ (-9223372036854775808 ≤ k ∧ k ≤ 9223372036854775807) ∧ (-9223372036854775808 ≤ c ∧ c ≤ 9223372036854775807) ∧ (-9223372036854775808 ≤ s ∧ s ≤ 9223372036854775807) ∧ (-9223372036854775808 ≤ op ∧ op ≤ 9223372036854775807) := by
  obtain ⟨x1, r1, rfl, k1, h⟩ := fit_cons h
  obtain ⟨x2, r2, rfl, k2, h⟩ := fit_cons h
  obtain ⟨x3, r3, rfl, k3, h⟩ := fit_cons h
  obtain ⟨x4, r4, rfl, k4, h⟩ := fit_cons h
  obtain ⟨x5, r5, rfl, k5, h⟩ := fit_cons h
  obtain ⟨x6, r6, rfl, k6, h⟩ := fit_cons h
  obtain ⟨x7, r7, rfl, k7, h⟩ := fit_cons h
  obtain ⟨x8, r8, rfl, k8, h⟩ := fit_cons h
  obtain ⟨x9, r9, rfl, k9, h9⟩ := fit_cons h
  obtain ⟨k, rfl, b1⟩ := fk_i k1
  obtain ⟨a, rfl⟩ := fk_u k2
  obtain ⟨b, rfl⟩ := fk_u k3
  obtain ⟨c, rfl, b2⟩ := fk_i k4
  obtain ⟨s, rfl, b3⟩ := fk_i k5
  obtain ⟨op, rfl, b4⟩ := fk_i k6
  obtain ⟨d, rfl⟩ := fk_u k7
  obtain ⟨o, rfl⟩ := fk_u k8
  obtain ⟨lv, rfl⟩ := fk_q k9
  exact ⟨k, a, b, c, s, op, d, o, lv, r9, rfl, ⟨L2.length h9, (fit_all h9).2.1, (fit_all h9).1⟩, b1, b2, b3, b4⟩

/-! ## XAww -/
def wrB (k : Int) (g : Bool) : Bool := if k = 3 then true else if k = 4 then true else if k = 6 then g else if k = 8 then g else false
def isQ (a : List Sc) : Prop := a.length = 19 ∧ a.all Sc.pf = true ∧ a.getD 0 .any = .i (gi a 0)
def isN (b : List Sc) : Prop := b.length = 42 ∧ b.all Sc.pf = true ∧ b.getD 1 .any = .b (gb b 1)
instance (l : List Sc) : Decidable (isQ l) := Classical.propDecidable _
instance (l : List Sc) : Decidable (isN l) := Classical.propDecidable _
end
end Go.Proofs.Ytanblagbkhpolaa
