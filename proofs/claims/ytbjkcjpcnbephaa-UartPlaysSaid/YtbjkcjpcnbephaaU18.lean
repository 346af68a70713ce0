/- Layer 17: is a port as the document's: contracts. -/
import Lean
import Derived.Test.YtbjkcjpcnbephaaU17
section
open Lean Elab Tactic Meta
/-- dev only: prints the states at which a run stands -/
elab "am_show" : tactic => do
  for g in ← getGoals do
    g.withContext do
      let t ← instantiateMVars (← g.getType)
      let mut out : Array MessageData := #[]
      let found ← IO.mkRef (#[] : Array Lean.Expr)
      let _ ← Meta.transform t (pre := fun e => do
        let f := e.getAppFn
        if f.isConstOf ``Go.Am.nxt || f.isConstOf ``Go.Am.grd || f.isConstOf ``Go.Am.cnd || f.isConstOf ``Go.Am.nxd || f.isConstOf ``Go.Am.grdd || f.isConstOf ``Go.Am.okT || f.isConstOf ``Go.Am.tied || f.isConstOf ``Go.Am.arun then
          found.modify (·.push e); return .done e
        else return .continue)
      let mut hyps : Array MessageData := #[]
      for d in ← getLCtx do
        if d.isImplementationDetail then continue
        hyps := hyps.push m!"{d.userName} : {d.type}"
      for e in (← found.get) do
        let a := e.getAppArgs
        if e.getAppFn.isConstOf ``Go.Am.nxt then out := out.push m!"NXT dst {a[6]!} res {a[8]!}\n  FR {a[7]!}"
        else if e.getAppFn.isConstOf ``Go.Am.cnd then out := out.push m!"CND {a[8]!}\n  FR {a[6]!}\n H {a[7]!}"
        else if e.getAppFn.isConstOf ``Go.Am.nxd then out := out.push m!"NXD {a[4]!} dst {a[8]!} tc {a[10]!} res {a[11]!}\n  FR {a[9]!}\n LOG {a[5]!}"
        else if e.getAppFn.isConstOf ``Go.Am.grdd then out := out.push m!"GRDD {a[4]!} op {a[9]!} guard {a[13]!}\n FR {a[11]!}\n H {a[12]!}"
        else if e.getAppFn.isConstOf ``Go.Am.okT then out := out.push m!"OKT {a[1]!} {a[2]!} log {a[3]!}"
        else if e.getAppFn.isConstOf ``Go.Am.tied then out := out.push m!"TIED {a[1]!} {a[2]!}"
        else if e.getAppFn.isConstOf ``Go.Am.grd then out := out.push m!"GRD op {a[7]!} guard {a[11]!}\n FR {a[9]!}\n H {a[10]!}"
        else
          let k ← whnf a[2]!
          let hd := if k.isAppOfArity ``List.cons 3 then k.getAppArgs[1]! else k
          let hd ← (do
            if hd.isAppOf ``Go.Am.It.c then
              let c := hd.appArg!
              if c.isAppOf ``Go.Code.seq then return m!"seq"
              else if c.isAppOf ``Go.Code.loop then return m!"LOOP"
              else if c.isAppOf ``Go.Code.cond then return m!"cond {c.getAppArgs[0]!}"
              else return m!"{c}"
            else if hd.isAppOf ``Go.Am.It.ops then
              let l := hd.appArg!
              if l.isAppOfArity ``List.cons 3 then return m!"ops {l.getAppArgs[1]!}" else return m!"ops {l}"
            else return m!"{hd}")
          out := out.push m!"ARUN at {hd}\n FR {a[3]!}\n H {a[4]!}"
      if out.isEmpty then out := #[m!"{t}"]
      logInfo m!"{MessageData.joinSep hyps.toList "\n"}\n⊢ {MessageData.joinSep out.toList "\n----\n"}"
  for g in ← getGoals do
    g.admit
end
namespace Go.Proofs.Ytbjkcjpcnbephaa
open Go.Am
set_option linter.unusedSimpArgs false
set_option linter.unusedVariables false
noncomputable section

def holdT (t u : Pt) : Bool := decide (t.A = u.A) && (decide (t.B = u.B) && ((!decide (causeP t = 1)) == (!decide (causeP u = 1))))
def s_holds (args : List AV) (H : AH) : Option AV :=
  match args with
  | [.c (.p id 0 0), .g c] =>
    match ptD H id, rpD H c with
    | some (t, _, _), some (u, _, _) => if t.A.length ≤ 1000000 ∧ t.B.length ≤ 1000000 then some (.c (.b (holdT t u))) else none
    | _, _ => none
  | _ => none
theorem s_holds_eq {id : Nat} {H : AH} {t u : Pt} {x y x' y' : Sc} (h1 : ptD H id = some (t, x, y)) (h2 : RpOk H u x' y') (h3 : t.A.length ≤ 1000000 ∧ t.B.length ≤ 1000000) : s_holds [.c (.p id 0 0), .g (rpC u x' y')] H = some (.c (.b (holdT t u))) := by
  simp only [s_holds, h1, rpD_of h2]; rw [if_pos h3]
set_option maxHeartbeats 8000000 in
set_option maxRecDepth 100000 in
set_option maxHeartbeats 2000000 in
theorem ok_holds : FpOk Try.prog 19 (fun args H => (s_holds args H).map fun v => (v, H)) := by
  refine fq_ok (s := s_holds) (tab := [(11, .fp s_uwaiting), (13, .fp s_uout), (14, .fq s_uline), (12, .fq s_ubytes), (35, .fq s_rcause)]) hmix (TabOk.cons (e := .fp s_uwaiting) ok_uwaiting (TabOk.cons (e := .fp s_uout) ok_uout (TabOk.cons (e := .fq s_uline) ok_uline (TabOk.cons (e := .fq s_ubytes) ok_ubytes (TabOk.cons (e := .fq s_rcause) ok_rcause TabOk.nil))))) Try.func19 rfl Try.results19 Try.ntmps19 (by kernel_rfl) (by kernel_rfl) ?_
  intro args H v h hargs hH
  unfold s_holds at h
  split at h
  · rename_i id c
    split at h
    · rename_i t x y u x' y' ht hu
      obtain ⟨rfl, ok⟩ := rpD_inv hu
      split at h
      · rename_i hc
        obtain ⟨c1, c2⟩ := hc
        simp only [Option.some.injEq] at h
        subst h
        refine ⟨by simp only [List.length_cons, List.length_nil]; decide, rfl, ?_⟩
        obtain ⟨hm, hA, hB⟩ := ptD_inv ht
        have lid : id < H.length := hg_lt (by rw [hm]; rfl)
        have bel := bel_at hH id
        rw [hm] at bel
        have bx : x.bel H.length = true := by simp only [AObj.cells, poC, poOf, List.all_cons, Bool.and_eq_true] at bel; exact bel.2.2.2.2.2.2.2.2.2.1
        have bY : y.bel H.length = true := by simp only [AObj.cells, poC, poOf, List.all_cons, Bool.and_eq_true] at bel; exact bel.2.2.2.2.2.2.2.2.2.2.1
        have hargs' : (rpC u x' y').all (Sc.bel H.length) = true := by simp only [List.all_cons, AV.bel, Bool.and_eq_true] at hargs; exact hargs.2.1
        obtain ⟨bx', bY'⟩ := rp_bel hargs'
        have po : ∀ X, poD (hg (H ++ X) id) = some (poOf t x y) := fun X => by rw [hg_app lid, hm]; rfl
        have qw : ∀ X, s_uwaiting [.c (.p id 0 0)] (H ++ X) = some (.c (.sl (H.length + X.length) 0 t.A.length t.A.length), H ++ (X ++ [.vec 1 (t.A.flatMap enc8)])) := fun X => by
          simp only [s_uwaiting, po]
          rw [show (poOf t x y).x = x from rfl, clone_sl hA bx c1]; rfl
        have qo : ∀ X, s_uout [.c (.p id 0 0)] (H ++ X) = some (.c (.sl (H.length + X.length) 0 t.B.length t.B.length), H ++ (X ++ [.vec 1 (t.B.flatMap enc8)])) := fun X => by
          simp only [s_uout, po]
          rw [show (poOf t x y).y = y from rfl, clone_sl hB bY c2]; rfl
        have ql : ∀ X, s_uline [.c (.p id 0 0)] (H ++ X) = some (.c (.b (!decide (causeP t = 1)))) := fun X => by
          rw [s_uline_eq (po X) (sl_len hA)]; rfl
        have qc : ∀ X, s_rcause [.g (rpC u x' y')] (H ++ X) = some (.c (.i (causeP u))) := fun X => s_rcause_eq (rp_app ok bx' bY')
        have v1 : ∀ P : AObj, slD 1 dc8 (H ++ [P, .vec 1 (t.A.flatMap enc8)]) (.sl (H.length + 1) 0 t.A.length t.A.length) = some t.A := fun P => by
          have g : hg (H ++ [P, .vec 1 (t.A.flatMap enc8)]) (H.length + 1) = .vec 1 (t.A.flatMap enc8) := by simp [hg, List.getD_eq_getElem?_getD]
          exact slD_of enc8_l dc8_e (by rw [g]; simp only [AObj.row, e8_len]) rfl (by rw [g]; rfl)
        have v2 : ∀ P Q : AObj, slD 1 dc8 (H ++ [P, Q, .vec 1 (t.B.flatMap enc8)]) (.sl (H.length + 2) 0 t.B.length t.B.length) = some t.B := fun P Q => by
          have g : hg (H ++ [P, Q, .vec 1 (t.B.flatMap enc8)]) (H.length + 2) = .vec 1 (t.B.flatMap enc8) := by simp [hg, List.getD_eq_getElem?_getD]
          exact slD_of enc8_l dc8_e (by rw [g]; simp only [AObj.row, e8_len]) rfl (by rw [g]; rfl)
        have q1 := fun P => s_ubytes_eq (v1 P) (slD_app (X := [P, .vec 1 (t.A.flatMap enc8)]) ok.hx bx') c1 ok.la
        have q2 := fun P Q => s_ubytes_eq (v2 P Q) (slD_app (X := [P, Q, .vec 1 (t.B.flatMap enc8)]) ok.hy bY') c2 ok.lb
        have ox := sl_one ok.hx
        have oy := sl_one ok.hy
        unfold holdT
        generalize causeP t = ct at *
        generalize causeP u = cu at *
        simp only [rpC] at qc
        by_cases hAA : t.A = u.A <;> by_cases hBB : t.B = u.B
        all_goals simp only [hAA, hBB, decide_true, decide_false] at q1 q2
        all_goals rcases sl_cases ok.hx with ⟨rfl, hA'⟩ | ⟨i3, v3, rfl, hv3, hcs3⟩ <;> rcases sl_cases ok.hy with ⟨rfl, hB'⟩ | ⟨i4, v4, rfl, hv4, hcs4⟩
        all_goals (try simp (config := { maxSteps := 10000000 }) only [go_sem, List.reduceReplicate, BitVec.reduceOfInt, BitVec.reduceToNat, BitVec.reduceToInt, BitVec.reduceEq, BitVec.reduceLT, BitVec.reduceLE, BitVec.reduceAdd, BitVec.reduceSub, BitVec.reduceMul, BitVec.reduceUDiv, BitVec.reduceUMod, BitVec.reduceAnd, BitVec.reduceOr, BitVec.reduceXOr, BitVec.reduceNot, BitVec.reduceNeg, BitVec.reduceHShiftLeft, BitVec.reduceHShiftRight, Nat.reduceAdd, Nat.reduceMul, Nat.reduceSub, Nat.reduceBEq, Nat.reduceEqDiff, Nat.reduceLeDiff, Nat.reduceLT, Int.reduceLE, Int.reduceLT, Int.reduceAdd, Int.reduceSub, Int.reduceMul, Int.reduceNeg, Int.reduceToNat, Int.reduceEq, ↓reduceIte, reduceCtorEq, rpC, hAA, hBB, qw, qo, ql, qc, q1, q2, decide_true, decide_false, Bool.true_and, Bool.false_and]; repeat (simp (disch := omega) only [w64_d, ipos, ineg, dpos, dneg]; try simp (config := { maxSteps := 10000000 }) only [go_sem, List.reduceReplicate, BitVec.reduceOfInt, BitVec.reduceToNat, BitVec.reduceToInt, BitVec.reduceEq, BitVec.reduceLT, BitVec.reduceLE, BitVec.reduceAdd, BitVec.reduceSub, BitVec.reduceMul, BitVec.reduceUDiv, BitVec.reduceUMod, BitVec.reduceAnd, BitVec.reduceOr, BitVec.reduceXOr, BitVec.reduceNot, BitVec.reduceNeg, BitVec.reduceHShiftLeft, BitVec.reduceHShiftRight, Nat.reduceAdd, Nat.reduceMul, Nat.reduceSub, Nat.reduceBEq, Nat.reduceEqDiff, Nat.reduceLeDiff, Nat.reduceLT, Int.reduceLE, Int.reduceLT, Int.reduceAdd, Int.reduceSub, Int.reduceMul, Int.reduceNeg, Int.reduceToNat, Int.reduceEq, ↓reduceIte, reduceCtorEq, rpC, hAA, hBB, qw, qo, ql, qc, q1, q2, decide_true, decide_false, Bool.true_and, Bool.false_and]))
        all_goals (repeat' apply And.intro) <;> first | exact subH_app _ _ | kernel_rfl | (intro e; omega) | (intro _; kernel_rfl) | (simp; done) | am_show
      · simp at h
    · simp at h
  · simp at h
end
end Go.Proofs.Ytbjkcjpcnbephaa
