/- Layer 27: a walk, as it stands: contracts. -/
import Derived.Test.YtanblagbkhpolaaPt2
import Derived.Test.YtanblagbkhpolaaV2
namespace Go.Proofs.Ytanblagbkhpolaa
open Go.Am
set_option linter.unusedSimpArgs false
set_option linter.unusedVariables false
noncomputable section

structure Wst where
  made : Bool
  ln : Int
  ro : BitVec 64
  va : BitVec 64
  ac : Int
  pr : Int
  su : Bool
  mx : Bool
  en : Int
  lv : Int
  at_ : BitVec 64
  et : BitVec 64
  mrk : Bool
  ag : Int
def wkC (s : Wst) : List Sc := [.b s.made, .i s.ln, .u s.ro, .u s.va, .i s.ac, .i s.pr, .b s.su, .b s.mx, .i s.en, .i s.lv, .u s.at_, .u s.et, .b s.mrk, .i s.ag]
def wkD : AObj → Option Wst
  | .own [.b a, .i b, .u c, .u d, .i e, .i f, .b g, .b h, .i i, .i j, .u k, .u l, .b m, .i n] => some ⟨a, b, c, d, e, f, g, h, i, j, k, l, m, n⟩
  | _ => none
theorem wkD_of (s : Wst) : wkD (.own (wkC s)) = some s := rfl
theorem wkD_inv {o : AObj} {s : Wst} (h : wkD o = some s) : o = .own (wkC s) := by
  unfold wkD at h
  split at h
  · simp only [Option.some.injEq] at h; subst h; rfl
  · simp at h
theorem wkC_bel (s : Wst) (n : Nat) : (wkC s).all (Sc.bel n) = true := rfl
def hasW (ln : Int) (a : BitVec 64) : Bool := if ln < 1 then false else if 4096 < ln then false else if a < 2147483648#64 then false else
  decide (a - 2147483648#64 < BitVec.ofInt 64 ln * 64#64) && decide (8#64 ≤ BitVec.ofInt 64 ln * 64#64 - (a - 2147483648#64))
def lookW (s : Wst) (p : BitVec 64) (l : Int) : Wst := { s with mrk := false, et := 0#64, lv := l, at_ := ventryU p s.va l, en := if hasW s.ln (ventryU p s.va l) = true then s.en else 3 }
def startW (s : Wst) : Wst := lookW s s.ro 2
def endedW (s : Wst) : Bool := !s.made || !decide (s.en = 0)
def tellW (s : Wst) (d : BitVec 64) (g : Bool) : Wst :=
  if endedW s = true then s else
  if s.mrk = true then (if g = true then { s with et := markU s.et s.ac, en := 1, mrk := false } else startW { s with ag := w64 (s.ag + 1) }) else
  if kindU d s.lv = 0 then { s with et := d, en := 2 } else
  if kindU d s.lv = 1 then lookW { s with et := d } (cutU d 10 44) (w64 (s.lv - 1)) else
  if letsB d s.ac s.pr s.su s.mx = true then (if markU d s.ac = d then { s with et := d, en := 1, mrk := false } else { s with et := d, mrk := true }) else { s with et := d, en := 2 }
def askC (k : Int) (ad : BitVec 64) (z : Int) (da ol : BitVec 64) : List Sc := [.i k, .u ad, .u 0#64, .i 0, .i z, .i 0, .u da, .u ol, .b false, .i 0, .b false, .b false, .b false, .u 0#64, .i 0, .i 0, .u 0#64, .i 0, .u 0#64]
def askW (s : Wst) : List Sc := if endedW s = true then askC 0 0#64 0 0#64 0#64 else if s.mrk = true then askC 8 s.at_ 8 (markU s.et s.ac) s.et else askC 7 s.at_ 8 0#64 0#64
def entC (p : BitVec 64) (l : Int) (t : BitVec 64) : List Sc := [.i 0, .u p, .i l, .u t]
def endI (s : Wst) : Int := if s.made = true then s.en else 2
def endE (s : Wst) : List Sc := if s.made = true ∧ s.en = 1 then entC (vpageU s.va s.lv) s.lv s.et else entC 0#64 0 0#64

def wkO (H : AH) : Sc → Option (Option (Nat × Wst))
  | .nilp => some none
  | .p id 0 0 => (wkD (hg H id)).map fun s => some (id, s)
  | _ => none
theorem wkO_cases {H : AH} {x : Sc} {r : Option (Nat × Wst)} (h : wkO H x = some r) : (x = .nilp ∧ r = none) ∨ ∃ id s, x = .p id 0 0 ∧ r = some (id, s) ∧ hg H id = .own (wkC s) ∧ id < H.length := by
  unfold wkO at h
  split at h
  · simp only [Option.some.injEq] at h; exact .inl ⟨rfl, h.symm⟩
  · rename_i id
    rw [Option.map_eq_some_iff] at h
    obtain ⟨s, h1, h2⟩ := h
    have e := wkD_inv h1
    exact .inr ⟨id, s, rfl, h2.symm, e, hg_lt (by rw [e]; rfl)⟩
  · simp at h
theorem wkO_of {H : AH} {id : Nat} {s : Wst} (h : hg H id = .own (wkC s)) : wkO H (.p id 0 0) = some (some (id, s)) := by
  unfold wkO; simp only [h, wkD_of, Option.map_some]
def s_wended (args : List AV) (H : AH) : Option AV :=
  match args with
  | [.c x] => (wkO H x).map fun r => .c (.b (match r with | none => true | some (_, s) => endedW s))
  | _ => none
theorem s_wended_of {H : AH} {id : Nat} {s : Wst} (h : hg H id = .own (wkC s)) : s_wended [.c (.p id 0 0)] H = some (.c (.b (endedW s))) := by simp only [s_wended, wkO_of h, Option.map_some]
theorem s_wended_n {H : AH} : s_wended [.c .nilp] H = some (.c (.b true)) := rfl
set_option maxRecDepth 100000 in
set_option maxHeartbeats 2000000 in
theorem ok_wended : FpOk Try.prog 20 (fun args H => (s_wended args H).map fun v => (v, H)) := by
  refine fq_ok (s := s_wended) (tab := []) hmix TabOk.nil Try.func20 rfl Try.results20 Try.ntmps20 (by kernel_rfl) (by kernel_rfl) ?_
  intro args H v h hargs hH
  unfold s_wended at h
  split at h
  · rename_i x
    rw [Option.map_eq_some_iff] at h
    obtain ⟨r, h1, rfl⟩ := h
    refine ⟨by simp only [List.length_cons, List.length_nil]; decide, rfl, ?_⟩
    rcases wkO_cases h1 with ⟨rfl, rfl⟩ | ⟨id, s, rfl, rfl, e, lid⟩
    · (try simp (config := { maxSteps := 10000000 }) only [go_sem, seval]; repeat (simp (disch := omega) only [w64_d, ipos, ineg, dpos, dneg]; try simp (config := { maxSteps := 10000000 }) only [go_sem, seval]))
      exact subH_refl _
    · obtain ⟨a, b, c, d, e1, f, g, h, i, j, k, l, m, n⟩ := s
      cases a
      all_goals by_cases h0 : i = 0
      all_goals (try simp (config := { maxSteps := 10000000 }) only [go_sem, seval, e, wkC, endedW, h0]; repeat (simp (disch := omega) only [w64_d, ipos, ineg, dpos, dneg]; try simp (config := { maxSteps := 10000000 }) only [go_sem, seval, e, wkC, endedW, h0]))
      all_goals exact subH_refl _
  · simp at h
def s_wmarked (args : List AV) (H : AH) : Option AV :=
  match args with
  | [.c (.p id 0 0)] => (wkD (hg H id)).map fun s => .t [.c (.u (markU s.et s.ac)), .c (.b (!decide (markU s.et s.ac = s.et)))]
  | _ => none
theorem s_wmarked_of {H : AH} {id : Nat} {s : Wst} (h : hg H id = .own (wkC s)) : s_wmarked [.c (.p id 0 0)] H = some (.t [.c (.u (markU s.et s.ac)), .c (.b (!decide (markU s.et s.ac = s.et)))]) := by simp only [s_wmarked, h, wkD_of, Option.map_some]
set_option maxRecDepth 100000 in
set_option maxHeartbeats 2000000 in
theorem ok_wmarked : FpOk Try.prog 22 (fun args H => (s_wmarked args H).map fun v => (v, H)) := by
  refine fq_ok (s := s_wmarked) (tab := [(17, .pu s_pmarked)]) hmix (TabOk.cons (e := .pu s_pmarked) ok_pmarked TabOk.nil) Try.func22 rfl Try.results22 Try.ntmps22 (by kernel_rfl) (by kernel_rfl) ?_
  intro args H v h hargs hH
  unfold s_wmarked at h
  split at h
  · rename_i id
    rw [Option.map_eq_some_iff] at h
    obtain ⟨s, h1, rfl⟩ := h
    have e := wkD_inv h1
    refine ⟨by simp only [List.length_cons, List.length_nil]; decide, rfl, ?_⟩
    (try simp (config := { maxSteps := 10000000 }) only [go_sem, seval, s_pmarked_eq, e, wkC]; repeat (simp (disch := omega) only [w64_d, ipos, ineg, dpos, dneg]; try simp (config := { maxSteps := 10000000 }) only [go_sem, seval, s_pmarked_eq, e, wkC]))
    exact subH_refl _
  · simp at h
def s_whas (args : List AV) (H : AH) : Option AV :=
  match args with
  | [.c (.p id 0 0)] => (wkD (hg H id)).map fun s => .c (.b (hasW s.ln s.at_))
  | _ => none
theorem s_whas_of {H : AH} {id : Nat} {s : Wst} (h : hg H id = .own (wkC s)) : s_whas [.c (.p id 0 0)] H = some (.c (.b (hasW s.ln s.at_))) := by simp only [s_whas, h, wkD_of, Option.map_some]
set_option maxRecDepth 100000 in
set_option maxHeartbeats 2000000 in
theorem ok_whas : FpOk Try.prog 49 (fun args H => (s_whas args H).map fun v => (v, H)) := by
  refine fq_ok (s := s_whas) (tab := []) hmix TabOk.nil Try.func49 rfl Try.results49 Try.ntmps49 (by kernel_rfl) (by kernel_rfl) ?_
  intro args H v h hargs hH
  unfold s_whas at h
  split at h
  · rename_i id
    rw [Option.map_eq_some_iff] at h
    obtain ⟨s, h1, rfl⟩ := h
    have e := wkD_inv h1
    refine ⟨by simp only [List.length_cons, List.length_nil]; decide, rfl, ?_⟩
    obtain ⟨a, b, c, d, e1, f, g, h, i, j, k, l, m, n⟩ := s
    by_cases h1 : b < 1
    · (try simp (config := { maxSteps := 10000000 }) only [go_sem, seval, e, wkC, hasW, h1]; repeat (simp (disch := omega) only [w64_d, ipos, ineg, dpos, dneg]; try simp (config := { maxSteps := 10000000 }) only [go_sem, seval, e, wkC, hasW, h1]))
      exact subH_refl _
    by_cases h2 : 4096 < b
    · (try simp (config := { maxSteps := 10000000 }) only [go_sem, seval, e, wkC, hasW, h1, h2]; repeat (simp (disch := omega) only [w64_d, ipos, ineg, dpos, dneg]; try simp (config := { maxSteps := 10000000 }) only [go_sem, seval, e, wkC, hasW, h1, h2]))
      exact subH_refl _
    by_cases h3 : k < 2147483648#64
    · (try simp (config := { maxSteps := 10000000 }) only [go_sem, seval, e, wkC, hasW, h1, h2, h3]; repeat (simp (disch := omega) only [w64_d, ipos, ineg, dpos, dneg]; try simp (config := { maxSteps := 10000000 }) only [go_sem, seval, e, wkC, hasW, h1, h2, h3]))
      exact subH_refl _
    by_cases h4 : k - 2147483648#64 < BitVec.ofInt 64 b * 64#64
    all_goals (try simp (config := { maxSteps := 10000000 }) only [go_sem, seval, e, wkC, hasW, h1, h2, h3, h4]; repeat (simp (disch := omega) only [w64_d, ipos, ineg, dpos, dneg]; try simp (config := { maxSteps := 10000000 }) only [go_sem, seval, e, wkC, hasW, h1, h2, h3, h4]))
    all_goals exact subH_refl _
  · simp at h
def s_wagain (args : List AV) (H : AH) : Option AV :=
  match args with
  | [.c x] => (wkO H x).map fun r => .c (.i (match r with | none => 0 | some (_, s) => s.ag))
  | _ => none
theorem s_wagain_of {H : AH} {id : Nat} {s : Wst} (h : hg H id = .own (wkC s)) : s_wagain [.c (.p id 0 0)] H = some (.c (.i s.ag)) := by simp only [s_wagain, wkO_of h, Option.map_some]
theorem s_wagain_n {H : AH} : s_wagain [.c .nilp] H = some (.c (.i 0)) := rfl
set_option maxRecDepth 100000 in
set_option maxHeartbeats 2000000 in
theorem ok_wagain : FpOk Try.prog 8 (fun args H => (s_wagain args H).map fun v => (v, H)) := by
  refine fq_ok (s := s_wagain) (tab := []) hmix TabOk.nil Try.func8 rfl Try.results8 Try.ntmps8 (by kernel_rfl) (by kernel_rfl) ?_
  intro args H v h hargs hH
  unfold s_wagain at h
  split at h
  · rename_i x
    rw [Option.map_eq_some_iff] at h
    obtain ⟨r, h1, rfl⟩ := h
    refine ⟨by simp only [List.length_cons, List.length_nil]; decide, rfl, ?_⟩
    rcases wkO_cases h1 with ⟨rfl, rfl⟩ | ⟨id, s, rfl, rfl, e, lid⟩
    · (try simp (config := { maxSteps := 10000000 }) only [go_sem, seval]; repeat (simp (disch := omega) only [w64_d, ipos, ineg, dpos, dneg]; try simp (config := { maxSteps := 10000000 }) only [go_sem, seval]))
      exact subH_refl _
    · (try simp (config := { maxSteps := 10000000 }) only [go_sem, seval, e, wkC]; repeat (simp (disch := omega) only [w64_d, ipos, ineg, dpos, dneg]; try simp (config := { maxSteps := 10000000 }) only [go_sem, seval, e, wkC]))
      exact subH_refl _
  · simp at h
def qC (s : Wst) : List Sc := [.i s.ln, .u s.ro, .u s.va, .i s.ac, .i s.pr, .b s.su, .b s.mx]
def q0 : List Sc := [.i 0, .u 0#64, .u 0#64, .i 0, .i 0, .b false, .b false]
def s_wquest (args : List AV) (H : AH) : Option AV :=
  match args with
  | [.c x] => (wkO H x).map fun r => .g (match r with | none => q0 | some (_, s) => qC s)
  | _ => none
theorem s_wquest_of {H : AH} {id : Nat} {s : Wst} (h : hg H id = .own (wkC s)) : s_wquest [.c (.p id 0 0)] H = some (.g (qC s)) := by simp only [s_wquest, wkO_of h, Option.map_some]
theorem s_wquest_n {H : AH} : s_wquest [.c .nilp] H = some (.g q0) := rfl
set_option maxRecDepth 100000 in
set_option maxHeartbeats 2000000 in
theorem ok_wquest : FpOk Try.prog 9 (fun args H => (s_wquest args H).map fun v => (v, H)) := by
  refine fq_ok (s := s_wquest) (tab := []) hmix TabOk.nil Try.func9 rfl Try.results9 Try.ntmps9 (by kernel_rfl) (by kernel_rfl) ?_
  intro args H v h hargs hH
  unfold s_wquest at h
  split at h
  · rename_i x
    rw [Option.map_eq_some_iff] at h
    obtain ⟨r, h1, rfl⟩ := h
    rcases wkO_cases h1 with ⟨rfl, rfl⟩ | ⟨id, s, rfl, rfl, e, lid⟩
    · refine ⟨by simp only [List.length_cons, List.length_nil]; decide, rfl, ?_⟩
      (try simp (config := { maxSteps := 10000000 }) only [go_sem, seval, q0]; repeat (simp (disch := omega) only [w64_d, ipos, ineg, dpos, dneg]; try simp (config := { maxSteps := 10000000 }) only [go_sem, seval, q0]))
      exact subH_app _ _
    · refine ⟨by simp only [List.length_cons, List.length_nil]; decide, rfl, ?_⟩
      have gx : ∀ X, hg (H ++ X) id = .own (wkC s) := fun X => by rw [hg_lt' lid]; exact e
      (try simp (config := { maxSteps := 10000000 }) only [go_sem, seval, gx, wkC, qC]; repeat (simp (disch := omega) only [w64_d, ipos, ineg, dpos, dneg]; try simp (config := { maxSteps := 10000000 }) only [go_sem, seval, gx, wkC, qC]))
      exact subH_app _ _
  · simp at h
def s_wask (args : List AV) (H : AH) : Option AV :=
  match args with
  | [.c x] => (wkO H x).map fun r => .t [.g (match r with | none => askC 0 0#64 0 0#64 0#64 | some (_, s) => askW s), .c (.b (match r with | none => false | some (_, s) => !endedW s))]
  | _ => none
theorem s_wask_of {H : AH} {id : Nat} {s : Wst} (h : hg H id = .own (wkC s)) : s_wask [.c (.p id 0 0)] H = some (.t [.g (askW s), .c (.b (!endedW s))]) := by simp only [s_wask, wkO_of h, Option.map_some]
theorem s_wask_n {H : AH} : s_wask [.c .nilp] H = some (.t [.g (askC 0 0#64 0 0#64 0#64), .c (.b false)]) := rfl
theorem askW_bel (s : Wst) (n : Nat) : (askW s).all (Sc.bel n) = true := by
  unfold askW
  repeat' split
  all_goals rfl
set_option maxRecDepth 100000 in
set_option maxHeartbeats 2000000 in
theorem ok_wask : FpOk Try.prog 6 (fun args H => (s_wask args H).map fun v => (v, H)) := by
  refine fq_ok (s := s_wask) (tab := [(20, .fq s_wended), (22, .fq s_wmarked)]) hmix (TabOk.cons (e := .fq s_wended) ok_wended (TabOk.cons (e := .fq s_wmarked) ok_wmarked TabOk.nil)) Try.func6 rfl Try.results6 Try.ntmps6 (by kernel_rfl) (by kernel_rfl) ?_
  intro args H v h hargs hH
  unfold s_wask at h
  split at h
  · rename_i x
    rw [Option.map_eq_some_iff] at h
    obtain ⟨r, h1, rfl⟩ := h
    rcases wkO_cases h1 with ⟨rfl, rfl⟩ | ⟨id, s, rfl, rfl, e, lid⟩
    · refine ⟨by simp only [List.length_cons, List.length_nil]; decide, rfl, ?_⟩
      (try simp (config := { maxSteps := 10000000 }) only [go_sem, seval, s_wended_n, askC]; repeat (simp (disch := omega) only [w64_d, ipos, ineg, dpos, dneg]; try simp (config := { maxSteps := 10000000 }) only [go_sem, seval, s_wended_n, askC]))
      exact subH_app _ _
    · refine ⟨by simp only [List.length_cons, List.length_nil]; decide, by simp only [AV.bel, List.all_cons, List.all_nil, Bool.and_true, askW_bel, Sc.bel], ?_⟩
      have gx : ∀ X, hg (H ++ X) id = .own (wkC s) := fun X => by rw [hg_lt' lid]; exact e
      have ne1 : (H.length = id) = False := eq_false (by omega)
      have q1 := fun X => s_wended_of (gx X)
      have q2 := fun X => s_wmarked_of (gx X)
      cases h0 : endedW s
      · cases h2 : s.mrk
        all_goals (try simp (config := { maxSteps := 10000000 }) only [go_sem, seval, q1, q2, h0, askW, askC]; repeat (simp (disch := omega) only [w64_d, ipos, ineg, dpos, dneg]; try simp (config := { maxSteps := 10000000 }) only [go_sem, seval, q1, q2, h0, askW, askC]))
        all_goals (try simp (config := { maxSteps := 10000000 }) only [go_sem, seval, gx, wkC, h2, q2, ne1]; repeat (simp (disch := omega) only [w64_d, ipos, ineg, dpos, dneg]; try simp (config := { maxSteps := 10000000 }) only [go_sem, seval, gx, wkC, h2, q2, ne1]))
        all_goals exact subH_app _ _
      · (try simp (config := { maxSteps := 10000000 }) only [go_sem, seval, q1, q2, h0, askW, askC]; repeat (simp (disch := omega) only [w64_d, ipos, ineg, dpos, dneg]; try simp (config := { maxSteps := 10000000 }) only [go_sem, seval, q1, q2, h0, askW, askC]))
        exact subH_app _ _
  · simp at h

theorem entC_bel (p : BitVec 64) (l : Int) (t : BitVec 64) (n : Nat) : (entC p l t).all (Sc.bel n) = true := rfl
theorem endE_bel (s : Wst) (n : Nat) : (endE s).all (Sc.bel n) = true := by
  unfold endE
  split <;> rfl
def s_wend (args : List AV) (H : AH) : Option AV :=
  match args with
  | [.c x] => (wkO H x).map fun r => .t [.c (.i (match r with | none => 2 | some (_, s) => endI s)), .g (match r with | none => entC 0#64 0 0#64 | some (_, s) => endE s)]
  | _ => none
theorem s_wend_of {H : AH} {id : Nat} {s : Wst} (h : hg H id = .own (wkC s)) : s_wend [.c (.p id 0 0)] H = some (.t [.c (.i (endI s)), .g (endE s)]) := by simp only [s_wend, wkO_of h, Option.map_some]
theorem s_wend_n {H : AH} : s_wend [.c .nilp] H = some (.t [.c (.i 2), .g (entC 0#64 0 0#64)]) := rfl
set_option maxRecDepth 100000 in
set_option maxHeartbeats 2000000 in
theorem ok_wend : FpOk Try.prog 7 (fun args H => (s_wend args H).map fun v => (v, H)) := by
  refine fq_ok (s := s_wend) (tab := [(25, .pu s_vpage)]) hmix (TabOk.cons (e := .pu s_vpage) ok_vpage TabOk.nil) Try.func7 rfl Try.results7 Try.ntmps7 (by kernel_rfl) (by kernel_rfl) ?_
  intro args H v h hargs hH
  unfold s_wend at h
  split at h
  · rename_i x
    rw [Option.map_eq_some_iff] at h
    obtain ⟨r, h1, rfl⟩ := h
    rcases wkO_cases h1 with ⟨rfl, rfl⟩ | ⟨id, s, rfl, rfl, e, lid⟩
    · refine ⟨by simp only [List.length_cons, List.length_nil]; decide, rfl, ?_⟩
      (try simp (config := { maxSteps := 10000000 }) only [go_sem, seval, entC]; repeat (simp (disch := omega) only [w64_d, ipos, ineg, dpos, dneg]; try simp (config := { maxSteps := 10000000 }) only [go_sem, seval, entC]))
      exact subH_app _ _
    · refine ⟨by simp only [List.length_cons, List.length_nil]; decide, by simp only [AV.bel, List.all_cons, List.all_nil, Bool.and_true, endE_bel, Sc.bel], ?_⟩
      have gx : ∀ X, hg (H ++ X) id = .own (wkC s) := fun X => by rw [hg_lt' lid]; exact e
      have ne1 : (H.length = id) = False := eq_false (by omega)
      cases h0 : s.made
      · (try simp (config := { maxSteps := 10000000 }) only [go_sem, seval, gx, wkC, h0, endI, endE, entC, Bool.false_eq_true, false_and, if_false]; repeat (simp (disch := omega) only [w64_d, ipos, ineg, dpos, dneg]; try simp (config := { maxSteps := 10000000 }) only [go_sem, seval, gx, wkC, h0, endI, endE, entC, Bool.false_eq_true, false_and, if_false]))
        exact subH_app _ _
      · by_cases h2 : s.en = 1
        · (try simp (config := { maxSteps := 10000000 }) only [go_sem, seval, s_vpage_eq, gx, wkC, h0, h2, ne1, endI, endE, entC, true_and, if_true]; repeat (simp (disch := omega) only [w64_d, ipos, ineg, dpos, dneg]; try simp (config := { maxSteps := 10000000 }) only [go_sem, seval, s_vpage_eq, gx, wkC, h0, h2, ne1, endI, endE, entC, true_and, if_true]))
          exact subH_app _ _
        · (try simp (config := { maxSteps := 10000000 }) only [go_sem, seval, gx, wkC, h0, h2, endI, endE, entC, and_false, if_false, if_true]; repeat (simp (disch := omega) only [w64_d, ipos, ineg, dpos, dneg]; try simp (config := { maxSteps := 10000000 }) only [go_sem, seval, gx, wkC, h0, h2, endI, endE, entC, and_false, if_false, if_true]))
          exact subH_app _ _
  · simp at h
/-- walks that change -/
def s_wlook (args : List AV) (H : AH) : Option (AV × AH) :=
  match args with
  | [.c (.p id 0 0), .c (.u p), .c (.i l)] => (wkD (hg H id)).map fun s => (.t [], H.set id (.own (wkC (lookW s p l))))
  | _ => none
theorem s_wlook_of {H : AH} {id : Nat} {s : Wst} {p : BitVec 64} {l : Int} (h : hg H id = .own (wkC s)) : s_wlook [.c (.p id 0 0), .c (.u p), .c (.i l)] H = some (.t [], H.set id (.own (wkC (lookW s p l)))) := by simp only [s_wlook, h, wkD_of, Option.map_some]
theorem len_wlook (args : List AV) (H : AH) (v : AV) (H1 : AH) (h : s_wlook args H = some (v, H1)) : H.length ≤ H1.length := by
  unfold s_wlook at h
  split at h
  · rw [Option.map_eq_some_iff] at h
    obtain ⟨s, _, h2⟩ := h
    simp only [Prod.mk.injEq] at h2
    rw [← h2.2]; simp
  · simp at h
theorem fin_w {n : Nat} {v : AV} {H : AH} : ∃ v', some v = some v' ∧ Wk n [(0, v')] H ([(0, v)], H) :=
  ⟨_, rfl, fun ρ _ _ h1 h2 => ⟨ρ, h1, h2, fun i _ hi hL _ => ⟨i, hi, hL⟩, fun _ _ => rfl⟩⟩
/-- an end where one object has changed -/
theorem fin_set {H : AH} {id : Nat} {s : Wst} {v : AV} (hH : belH H = true) (X : AH) (hv : v.bel H.length = true) : ∃ v', some v = some v' ∧ Wk H.length [(0, v')] (H.set id (.own (wkC s)) ++ X) ([(0, v)], H.set id (.own (wkC s))) :=
  ⟨v, rfl, Wk.wk (by simp) (by simp [Am.get]) (by simp only [List.all_cons, List.all_nil, Bool.and_true, List.length_set]; exact hv) (subH_app _ _) (bel_set hH (wkC_bel _ _))⟩
theorem fin_set0 {H : AH} {id : Nat} {s : Wst} {v : AV} (hH : belH H = true) (hv : v.bel H.length = true) : ∃ v', some v = some v' ∧ Wk H.length [(0, v')] (H.set id (.own (wkC s))) ([(0, v)], H.set id (.own (wkC s))) := by
  have := fin_set (id := id) (s := s) hH [] hv
  rwa [List.append_nil] at this
set_option maxRecDepth 100000 in
set_option maxHeartbeats 2000000 in
theorem ok_wlook : FpOk Try.prog 23 s_wlook := by
  refine fp_ok (s := s_wlook) (tab := [(49, .fq s_whas), (48, .pu s_ventry)]) hmix (TabOk.cons (e := .fq s_whas) ok_whas (TabOk.cons (e := .pu s_ventry) ok_ventry TabOk.nil)) Try.func23 rfl Try.results23 Try.ntmps23 (by kernel_rfl) (by kernel_rfl) len_wlook ?_
  intro args H v H1 h hargs hH
  unfold s_wlook at h
  split at h
  · rename_i id p l
    rw [Option.map_eq_some_iff] at h
    obtain ⟨s, h1, h2⟩ := h
    simp only [Prod.mk.injEq] at h2
    obtain ⟨rfl, rfl⟩ := h2
    have e := wkD_inv h1
    have lid : id < H.length := hg_lt (by rw [e]; rfl)
    have hgS : ∀ o, hg (H.set id o) id = o := fun o => hg_set_same lid
    have q1 := fun (s' : Wst) => s_whas_of (H := H.set id (.own (wkC s'))) (hgS _)
    simp only [wkC] at q1
    refine ⟨by simp only [List.length_cons, List.length_nil]; decide, ?_⟩
    obtain ⟨a, b, c, d, e1, f, g, h, i, j, k, m, n, o⟩ := s
    have q2 := q1 ⟨a, b, c, d, e1, f, g, h, i, l, ventryU p d l, 0#64, false, o⟩
    simp only at q2
    cases h0 : hasW b (ventryU p d l)
    all_goals rw [h0] at q2
    all_goals (try simp (config := { maxSteps := 10000000 }) only [go_sem, seval, s_ventry_eq, e, wkC, hgS, List.length_set, q2]; repeat (simp (disch := omega) only [w64_d, ipos, ineg, dpos, dneg]; try simp (config := { maxSteps := 10000000 }) only [go_sem, seval, s_ventry_eq, e, wkC, hgS, List.length_set, q2]))
    all_goals simp only [lookW, h0, if_true, Bool.false_eq_true, if_false]
    all_goals exact fin_w
  · simp at h

def s_wstart (args : List AV) (H : AH) : Option (AV × AH) :=
  match args with
  | [.c (.p id 0 0)] => (wkD (hg H id)).map fun s => (.t [], H.set id (.own (wkC (startW s))))
  | _ => none
theorem s_wstart_of {H : AH} {id : Nat} {s : Wst} (h : hg H id = .own (wkC s)) : s_wstart [.c (.p id 0 0)] H = some (.t [], H.set id (.own (wkC (startW s)))) := by simp only [s_wstart, h, wkD_of, Option.map_some]
theorem len_wstart (args : List AV) (H : AH) (v : AV) (H1 : AH) (h : s_wstart args H = some (v, H1)) : H.length ≤ H1.length := by
  unfold s_wstart at h
  split at h
  · rw [Option.map_eq_some_iff] at h
    obtain ⟨s, _, h2⟩ := h
    simp only [Prod.mk.injEq] at h2
    rw [← h2.2]; simp
  · simp at h
set_option maxRecDepth 100000 in
set_option maxHeartbeats 2000000 in
theorem ok_wstart : FpOk Try.prog 21 s_wstart := by
  refine fp_ok (s := s_wstart) (tab := [(23, .fp s_wlook)]) hmix (TabOk.cons (e := .fp s_wlook) ok_wlook TabOk.nil) Try.func21 rfl Try.results21 Try.ntmps21 (by kernel_rfl) (by kernel_rfl) len_wstart ?_
  intro args H v H1 h hargs hH
  unfold s_wstart at h
  split at h
  · rename_i id
    rw [Option.map_eq_some_iff] at h
    obtain ⟨s, h1, h2⟩ := h
    simp only [Prod.mk.injEq] at h2
    obtain ⟨rfl, rfl⟩ := h2
    have e := wkD_inv h1
    have lid : id < H.length := hg_lt (by rw [e]; rfl)
    have q := s_wlook_of (p := s.ro) (l := 2) e
    refine ⟨by simp only [List.length_cons, List.length_nil]; decide, ?_⟩
    have g2 : hg H id = .own [.b s.made, .i s.ln, .u s.ro, .u s.va, .i s.ac, .i s.pr, .b s.su, .b s.mx, .i s.en, .i s.lv, .u s.at_, .u s.et, .b s.mrk, .i s.ag] := e
    (try simp (config := { maxSteps := 10000000 }) only [go_sem, seval, g2, q]; repeat (simp (disch := omega) only [w64_d, ipos, ineg, dpos, dneg]; try simp (config := { maxSteps := 10000000 }) only [go_sem, seval, g2, q]))
    exact fin_w
  · simp at h
def s_wtell (args : List AV) (H : AH) : Option (AV × AH) :=
  match args with
  | [.c x, .g (.u d :: .b g :: m)] => if m.length = 40 ∧ m.all Sc.one = true then (wkO H x).map fun r => (.t [], match r with | none => H | some (id, s) => H.set id (.own (wkC (tellW s d g)))) else none
  | _ => none
theorem s_wtell_of {H : AH} {id : Nat} {s : Wst} {d : BitVec 64} {g : Bool} {m : List Sc} (h : hg H id = .own (wkC s)) (hm : m.length = 40 ∧ m.all Sc.one = true) : s_wtell [.c (.p id 0 0), .g (.u d :: .b g :: m)] H = some (.t [], H.set id (.own (wkC (tellW s d g)))) := by simp only [s_wtell, hm, wkO_of h, Option.map_some, and_self, if_true]
theorem s_wtell_n {H : AH} {d : BitVec 64} {g : Bool} {m : List Sc} (hm : m.length = 40 ∧ m.all Sc.one = true) : s_wtell [.c .nilp, .g (.u d :: .b g :: m)] H = some (.t [], H) := by
  simp only [s_wtell, hm, wkO, Option.map_some, and_self, if_true]
theorem len_wtell (args : List AV) (H : AH) (v : AV) (H1 : AH) (h : s_wtell args H = some (v, H1)) : H.length ≤ H1.length := by
  unfold s_wtell at h
  split at h
  · split at h
    · rw [Option.map_eq_some_iff] at h
      obtain ⟨r, _, h2⟩ := h
      simp only [Prod.mk.injEq] at h2
      rw [← h2.2]
      split <;> simp
    · simp at h
  · simp at h

end
end Go.Proofs.Ytanblagbkhpolaa
