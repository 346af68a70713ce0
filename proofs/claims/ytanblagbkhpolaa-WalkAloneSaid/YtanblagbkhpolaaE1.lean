/- Layer 31: events: contracts, and the law EventParts. -/
import Derived.Test.YtanblagbkhpolaaArr
namespace Go.Proofs.Ytanblagbkhpolaa
open Go.Am
set_option linter.unusedSimpArgs false
set_option linter.unusedVariables false
noncomputable section

/-! ### cells that are of some kinds -/
def gi (l : List Sc) (i : Nat) : Int := match l.getD i .any with
  | .i x => x
  | _ => 0
def gu (l : List Sc) (i : Nat) : BitVec 64 := match l.getD i .any with
  | .u x => x
  | _ => 0#64
def gb (l : List Sc) (i : Nat) : Bool := match l.getD i .any with
  | .b x => x
  | _ => false
theorem fit_get {l : List Sc} {ks : List K} (h : L2 FitK l ks) {i : Nat} {k : K} (hi : ks[i]? = some k) : ∃ s, l[i]? = some s ∧ FitK s k := by
  induction h generalizing i with
  | nil => simp at hi
  | cons h1 h2 ih =>
    cases i with
    | zero => simp at hi; subst hi; exact ⟨_, by simp, h1⟩
    | succ i => simpa using ih (by simpa using hi)
theorem fit_i {l : List Sc} {ks : List K} (h : L2 FitK l ks) (i : Nat) (hi : ks[i]? = some (.n .i64)) : l.getD i .any = .i (gi l i) ∧ -9223372036854775808 ≤ gi l i ∧ gi l i ≤ 9223372036854775807 := by
  obtain ⟨s, h1, h2⟩ := fit_get h hi
  obtain ⟨x, rfl, h3⟩ := fk_i h2
  have e : l.getD i .any = .i x := by rw [List.getD_eq_getElem?_getD, h1]; rfl
  unfold gi; rw [e]; exact ⟨rfl, h3⟩
theorem fit_u {l : List Sc} {ks : List K} (h : L2 FitK l ks) (i : Nat) (hi : ks[i]? = some (.n .u64)) : l.getD i .any = .u (gu l i) := by
  obtain ⟨s, h1, h2⟩ := fit_get h hi
  obtain ⟨x, rfl⟩ := fk_u h2
  have e : l.getD i .any = .u x := by rw [List.getD_eq_getElem?_getD, h1]; rfl
  unfold gu; rw [e]
theorem fit_b {l : List Sc} {ks : List K} (h : L2 FitK l ks) (i : Nat) (hi : ks[i]? = some .q) : l.getD i .any = .b (gb l i) := by
  obtain ⟨s, h1, h2⟩ := fit_get h hi
  obtain ⟨x, rfl⟩ := fk_q h2
  have e : l.getD i .any = .b x := by rw [List.getD_eq_getElem?_getD, h1]; rfl
  unfold gb; rw [e]
theorem fit_all {l : List Sc} {ks : List K} (h : L2 FitK l ks) : l.all Sc.one = true ∧ l.all Sc.pf = true ∧ ∀ n, l.all (Sc.bel n) = true := by
  induction h with
  | nil => exact ⟨rfl, rfl, fun _ => rfl⟩
  | @cons s k l m h1 h2 ih =>
    obtain ⟨a, b, c⟩ := ih
    have : s.one = true ∧ s.pf = true ∧ ∀ n, s.bel n = true := by
      cases s <;> first | exact ⟨rfl, rfl, fun _ => rfl⟩ | (cases k <;> simp [FitK] at h1)
    exact ⟨by rw [List.all_cons, this.1, a]; rfl, by rw [List.all_cons, this.2.1, b]; rfl, fun n => by rw [List.all_cons, this.2.2 n, c n]; rfl⟩
def ksReq : List K := [.q, .q, .q, .n .u64, .n .i64]
def ksAsk : List K := [.n .i64, .n .u64, .n .u64, .n .i64, .n .i64, .n .i64, .n .u64, .n .u64, .q, .n .i64, .q, .q, .q, .n .u64, .n .i64, .n .i64, .n .u64, .n .i64, .n .u64]
def ksAns : List K := [.n .u64, .q] ++ (List.replicate 8 ksReq).flatten
def ksE : List K := [.n .i64] ++ ksAsk ++ ksAns ++ [.n .i64, .n .i64, .n .i64]
def isE (l : List Sc) : Prop := L2 FitK l ksE
instance (l : List Sc) : Decidable (isE l) := Classical.propDecidable _
theorem isE_len {l : List Sc} (h : isE l) : l.length = 65 := by rw [L2.length h]; rfl
abbrev Ev := {l : List Sc // isE l}
def encE (e : Ev) : List Sc := e.1
def dcE (cs : List Sc) : Option Ev := if h : isE cs then some ⟨cs, h⟩ else none
theorem dcE_e (e : Ev) : dcE (encE e) = some e := by unfold dcE encE; rw [dif_pos e.2]
theorem dcE_d (cs : List Sc) (e : Ev) (h : dcE cs = some e) : cs = encE e := by
  unfold dcE at h
  split at h
  · simp only [Option.some.injEq] at h; subst h; rfl
  · simp at h
theorem encE_l (e : Ev) : (encE e).length = 65 := isE_len e.2

def knownB (k : Int) : Bool := decide (1 ≤ k) && decide (k ≤ 20)
def groupI (k : Int) : Int := if k < 1 then 0 else if k ≤ 8 then 1 else if k ≤ 11 then 2 else if k ≤ 14 then 3 else if k ≤ 17 then 4 else if k ≤ 20 then 5 else 0
def outB (l : List Sc) : Bool := decide (0 ≤ gi l 0) && (decide (1 ≤ groupI (gi l 1)) && decide (groupI (gi l 1) ≤ 3))
def behB (a b : List Sc) : Bool :=
  if gi b 63 < gi a 63 then false else if gi b 64 < gi a 62 then false else
  !(outB a && (outB b && decide (gi a 0 = gi b 0))) || decide (gi a 64 < gi b 62)
def selfB (e : List Sc) : Bool := if gi e 62 < 0 then false else if gi e 63 < gi e 62 then false else if gi e 64 < gi e 63 then false else true
/-- may the event stand there? -/
def okAt (L : List Ev) (i : Nat) : Bool := match L[i]? with
  | some e => selfB e.1 && (L.take i).all fun a => behB a.1 e.1
  | none => true
def badN (L : List Ev) : Option Nat := (List.range L.length).find? fun i => !okAt L i
def ordI (L : List Ev) : Int := match badN L with
  | some i => i
  | none => 0
def ordB (L : List Ev) : Bool := (badN L).isNone
theorem bad_some {L : List Ev} {k : Nat} (hk : k < L.length) (h : ∀ i, i < k → okAt L i = true) (hb : okAt L k = false) : badN L = some k := by
  unfold badN
  rw [List.find?_range_eq_some]
  exact ⟨by rw [hb]; rfl, by simpa using hk, fun j hj => by rw [h j hj]; rfl⟩
theorem bad_none {L : List Ev} (h : ∀ i, i < L.length → okAt L i = true) : badN L = none := by
  unfold badN
  rw [List.find?_range_eq_none]
  intro i hi
  rw [h i hi]; rfl
def s_eordered (args : List AV) (H : AH) : Option AV :=
  match args with
  | [.c x] =>
    match slD 65 dcE H x with
    | some L => if L.length ≤ 1000000 then some (.t [.c (.i (ordI L)), .c (.b (ordB L))]) else none
    | none => none
  | _ => none
theorem s_eordered_eq {x : Sc} {H : AH} {L : List Ev} (h : slD 65 dcE H x = some L) (hl : L.length ≤ 1000000) : s_eordered [.c x] H = some (.t [.c (.i (ordI L)), .c (.b (ordB L))]) := by
  simp only [s_eordered, h, hl, if_true]
theorem s_eordered_inv {args : List AV} {H : AH} {v : AV} (h : s_eordered args H = some v) : ∃ x L, args = [.c x] ∧ slD 65 dcE H x = some L ∧ L.length ≤ 1000000 ∧ v = .t [.c (.i (ordI L)), .c (.b (ordB L))] := by
  unfold s_eordered at h
  split at h
  · split at h
    · split at h
      · rename_i h1 h2
        simp only [Option.some.injEq] at h
        exact ⟨_, _, rfl, h1, h2, h.symm⟩
      · simp at h
    · simp at h
  · simp at h
theorem subH_2E {H : AH} {a b : AObj} : subH (H ++ [a]) (H ++ [a, b]) := by
  have := subH_app (H ++ [a]) [b]
  rw [List.append_assoc] at this
  exact this
theorem ord_nil : ordI [] = 0 ∧ ordB [] = true := ⟨rfl, rfl⟩

end
end Go.Proofs.Ytanblagbkhpolaa
