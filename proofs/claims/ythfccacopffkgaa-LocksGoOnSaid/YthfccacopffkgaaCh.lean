/- Contracts by choice: what a function does is told by a relation that its run fulfils; the run itself is chosen. -/
import Derived.Test.YthfccacopffkgaaTy
namespace Go.Proofs.Ythfccacopffkgaa
open Go.Am
set_option linter.unusedSimpArgs false
set_option linter.unusedVariables false
noncomputable section

section
variable {P : Program} {tab : Tab} {f : Nat} {fn : Func} {code : Code} {rs : List ResultVar} {n : Nat} {args : List AV} {H : AH} {v : AV} {H1 : AH}
def RunP (P : Program) (tab : Tab) (f : Nat) (args : List AV) (H : AH) (v : AV) (H1 : AH) : Prop :=
  ∀ fn code, P.funcs[f]? = some fn → fn.body = some code → (args.all (AV.bel H.length)) = true → belH H = true → args.length ≤ fn.ntmps ∧
    arun P ((1000000, .lo H.length) :: tab) [.c code] (frA 0 args) H (fun fr H' => ∃ v', resA P fr H' fn.results.toList = some v' ∧ Wk H.length [(0, v')] H' ([(0, v)], H1))
def sCh (R : AV → AH → Prop) : Option (AV × AH) := by
  classical
  exact if h : ∃ r : AV × AH, R r.1 r.2 then some h.choose else none
theorem sCh_inv {R : AV → AH → Prop} (h : sCh R = some (v, H1)) : R v H1 := by
  unfold sCh at h
  split at h
  · rename_i h1
    simp only [Option.some.injEq] at h
    have := h1.choose_spec
    rw [h] at this
    exact this
  · simp at h
theorem sCh_of {R : AV → AH → Prop} (h : R v H1) : ∃ v H1, sCh R = some (v, H1) ∧ R v H1 := by
  have h1 : ∃ r : AV × AH, R r.1 r.2 := ⟨(v, H1), h⟩
  refine ⟨h1.choose.1, h1.choose.2, ?_, h1.choose_spec⟩
  unfold sCh
  rw [dif_pos h1]
def frS (P : Program) (tab : Tab) (f : Nat) (post : List AV → AH → AV → AH → Prop) (args : List AV) (H : AH) : Option (AV × AH) :=
  sCh fun v H1 => RunP P tab f args H v H1 ∧ H.length ≤ H1.length ∧ post args H v H1
variable {post : List AV → AH → AV → AH → Prop}
theorem frS_post (h : frS P tab f post args H = some (v, H1)) : H.length ≤ H1.length ∧ post args H v H1 := (sCh_inv h).2
theorem frS_len (args : List AV) (H : AH) (v : AV) (H1 : AH) (h : frS P tab f post args H = some (v, H1)) : H.length ≤ H1.length := (sCh_inv h).2.1
theorem frS_ok (hmix : P.follows .mixedOrders = true) (ht : TabOk P tab)
    (hf : P.funcs[f]? = some fn) (hb : fn.body = some code) (hrs : fn.results = rs.toArray) (hn : fn.ntmps = n) (hname : (fn.name == "runtime.NumGoroutine") = false) (hok : okC n ddr code = true) : FpOk P f (frS P tab f post) := by
  refine fp_ok (s := frS P tab f post) (tab := tab) hmix ht hf hb hrs hn hname hok frS_len ?_
  intro args H v H1 h ha hH
  have := (sCh_inv h).1 fn code hf hb ha hH
  rw [hn, hrs] at this
  exact this
theorem frS_ex (hf : P.funcs[f]? = some fn) (hb : fn.body = some code) (hrs : fn.results = rs.toArray) (hn : fn.ntmps = n) (hl : args.length ≤ n)
    (h : (args.all (AV.bel H.length)) = true → belH H = true → arun P ((1000000, .lo H.length) :: tab) [.c code] (frA 0 args) H (fun fr H' => ∃ v', resA P fr H' rs = some v' ∧ Wk H.length [(0, v')] H' ([(0, v)], H1)))
    (hlen : H.length ≤ H1.length) (hp : post args H v H1) : ∃ v H1, frS P tab f post args H = some (v, H1) ∧ H.length ≤ H1.length ∧ post args H v H1 := by
  obtain ⟨v, H1, h1, _, h2, h3⟩ := sCh_of (R := fun v H1 => RunP P tab f args H v H1 ∧ H.length ≤ H1.length ∧ post args H v H1) ⟨fun fn' code' e1 e2 ha hH => by
    rw [hf] at e1
    simp only [Option.some.injEq] at e1
    subst e1
    rw [hb] at e2
    simp only [Option.some.injEq] at e2
    subst e2
    rw [hn, hrs]
    exact ⟨hl, h ha hH⟩, hlen, hp⟩
  exact ⟨v, H1, h1, h2, h3⟩
/-! ### functions that only read -/
def RunQ (P : Program) (tab : Tab) (f : Nat) (args : List AV) (H : AH) (v : AV) : Prop :=
  ∀ fn code, P.funcs[f]? = some fn → fn.body = some code → (args.all (AV.bel H.length)) = true → belH H = true → args.length ≤ fn.ntmps ∧ v.bel H.length = true ∧
    arun P ((1000000, .lo H.length) :: tab) [.c code] (frA 0 args) H (fun fr H' => resA P fr H' fn.results.toList = some v ∧ subH H H')
def sCq (R : AV → Prop) : Option AV := by
  classical
  exact if h : ∃ r : AV, R r then some h.choose else none
theorem sCq_inv {R : AV → Prop} (h : sCq R = some v) : R v := by
  unfold sCq at h
  split at h
  · rename_i h1
    simp only [Option.some.injEq] at h
    have := h1.choose_spec
    rw [h] at this
    exact this
  · simp at h
theorem sCq_of {R : AV → Prop} (h : R v) : ∃ v, sCq R = some v ∧ R v := by
  have h1 : ∃ r : AV, R r := ⟨v, h⟩
  refine ⟨h1.choose, ?_, h1.choose_spec⟩
  unfold sCq
  rw [dif_pos h1]
def frQ (P : Program) (tab : Tab) (f : Nat) (post : List AV → AH → AV → Prop) (args : List AV) (H : AH) : Option AV :=
  sCq fun v => RunQ P tab f args H v ∧ post args H v
variable {postq : List AV → AH → AV → Prop}
theorem frQ_post (h : frQ P tab f postq args H = some v) : postq args H v := (sCq_inv h).2
theorem frQ_ok (hmix : P.follows .mixedOrders = true) (ht : TabOk P tab)
    (hf : P.funcs[f]? = some fn) (hb : fn.body = some code) (hrs : fn.results = rs.toArray) (hn : fn.ntmps = n) (hname : (fn.name == "runtime.NumGoroutine") = false) (hok : okC n ddr code = true) :
    FpOk P f (fun args H => (frQ P tab f postq args H).map fun v => (v, H)) := by
  refine fq_ok (s := frQ P tab f postq) (tab := tab) hmix ht hf hb hrs hn hname hok ?_
  intro args H v h ha hH
  have := (sCq_inv h).1 fn code hf hb ha hH
  rw [hn, hrs] at this
  exact this
theorem frQ_ex (hf : P.funcs[f]? = some fn) (hb : fn.body = some code) (hrs : fn.results = rs.toArray) (hn : fn.ntmps = n) (hl : args.length ≤ n) (hv : (args.all (AV.bel H.length)) = true → belH H = true → v.bel H.length = true)
    (h : (args.all (AV.bel H.length)) = true → belH H = true → arun P ((1000000, .lo H.length) :: tab) [.c code] (frA 0 args) H (fun fr H' => resA P fr H' rs = some v ∧ subH H H'))
    (hp : postq args H v) : ∃ v, frQ P tab f postq args H = some v ∧ postq args H v := by
  obtain ⟨v, h1, _, h3⟩ := sCq_of (R := fun v => RunQ P tab f args H v ∧ postq args H v) ⟨fun fn' code' e1 e2 ha hH => by
    rw [hf] at e1
    simp only [Option.some.injEq] at e1
    subst e1
    rw [hb] at e2
    simp only [Option.some.injEq] at e2
    subst e2
    rw [hn, hrs]
    exact ⟨hl, hv ha hH, h ha hH⟩, hp⟩
  exact ⟨v, h1, h3⟩
end
end
end Go.Proofs.Ythfccacopffkgaa
