/- A law's frame over the abstract machine: what its arguments are, and that it answers true: no conditions. -/
import Derived.Test.YtcfnfdafcfpohaaAm
import Derived.ProofKit
import Derived.OpenShut
set_option linter.unusedSimpArgs false
set_option linter.unusedVariables false
/- A law's frame: what its arguments are, and that it answers true. -/
namespace Go.Am
variable {P : Program}

/-! ### what cells hold -/
inductive K where
  | n (k : IntKind)
  | q
  | s
def FitK : Sc → K → Prop
  | .i x, .n .i64 => -9223372036854775808 ≤ x ∧ x ≤ 9223372036854775807
  | .u _, .n .u64 => True
  | .k kd x, .n kd' => kd = kd' ∧ kd.bits ≤ 32 ∧ kd.min ≤ x ∧ x ≤ kd.max
  | .b _, .q => True
  | .s t, .s => t.size ≤ 9223372036854775807
  | _, _ => False
def flF (g : TypeId → Option (List K)) (P : Program) : List Field → Nat → Option (List K)
  | [], _ => some []
  | f :: r, off =>
    if f.offset = off then
      match g f.type, flF g P r (off + P.cellsOf f.type) with
      | some a, some b => if a.length = P.cellsOf f.type then some (a ++ b) else none
      | _, _ => none
    else none
def flK (P : Program) : Nat → TypeId → Option (List K)
  | 0, _ => none
  | d + 1, t =>
    match P.underlying t with
    | some .bool => some [.q]
    | some (.int k) => some [.n k]
    | some .string => some [.s]
    | some (.struct fs) => (flF (flK P d) P fs.toList 0).bind fun l => if l.length = P.cellsOf t then some l else none
    | some (.array m e) => (flK P d e).bind fun l => if l.length = P.cellsOf e ∧ m * l.length = P.cellsOf t then some (List.replicate m l).flatten else none
    | _ => none

section
variable {H : Type} {enc : TypeId × Value → H} {w : World} {base : Nat} {sp : Nat → Bool} {held : Bool}
/-- what is read, as cells -/
def Read (ρ : Ro) (cs : List Value) (ks : List K) (x : List MemPlace) : Prop := x = [] ∧ ∃ l, L2 FitK l ks ∧ L2 (SRel ρ) l cs

theorem L2.nil_r {α β : Type} {R : α → β → Prop} {l : List α} (h : L2 R l []) : l = [] := by cases h; rfl

theorem int_fit {ρ : Ro} {k : IntKind} {n : Int} (h : (Lit.int k n).wf = true) : ∃ l, L2 FitK l [.n k] ∧ L2 (SRel ρ) l [.int k n] := by
  simp only [Lit.wf, Bool.and_eq_true, decide_eq_true_eq] at h
  by_cases h1 : k = .i64
  · subst h1
    have h2 : -9223372036854775808 ≤ n ∧ n ≤ 9223372036854775807 := h
    exact ⟨[.i n], .cons h2 .nil, .cons ⟨rfl, h2⟩ .nil⟩
  · by_cases h3 : k = .u64
    · subst h3
      have h2 : 0 ≤ n ∧ n ≤ 18446744073709551615 := h
      refine ⟨[.u (BitVec.ofInt 64 n)], .cons trivial .nil, .cons ?_ .nil⟩
      show Value.int .u64 n = .int .u64 _
      congr 1
      rw [BitVec.toNat_ofInt]; omega
    · have hb : k.bits ≤ 32 := by cases k <;> simp [IntKind.bits] at h1 h3 ⊢
      exact ⟨[.k k n], .cons ⟨rfl, hb, h.1, h.2⟩ .nil, .cons ⟨rfl, hb, h.1, h.2⟩ .nil⟩

theorem L2.app2 {α β : Type} {R : α → β → Prop} {l l' : List α} {m m' : List β} (h : L2 R l m) (h' : L2 R l' m') : L2 R (l ++ l') (m ++ m') := h.app h'

theorem fl_fields {ρ : Ro} {g : TypeId → Option (List K)} {r : TypeId → List Value → Option (DataW H × List MemPlace)} (hg : ∀ t cs x ks, g t = some ks → r t cs = some x → Read ρ cs ks x.2) (cs : List Value) :
    ∀ (fs : List Field) (off : Nat) (ks : List K) (xs : List (DataW H × List MemPlace)), flF g P fs off = some ks → (fs.mapM fun f => r f.type ((cs.drop f.offset).take (P.cellsOf f.type))) = some xs →
      Read ρ ((cs.drop off).take ks.length) ks (xs.flatMap (·.2)) := by
  intro fs
  induction fs with
  | nil =>
    intro off ks xs h1 h2
    simp [flF] at h1; subst h1
    simp at h2; subst h2
    exact ⟨rfl, [], .nil, by simp; exact .nil⟩
  | cons f fs ih =>
    intro off ks xs h1 h2
    simp only [flF] at h1
    split at h1 <;> try (simp at h1; done)
    rename_i ho
    split at h1 <;> try (simp at h1; done)
    rename_i a b ha hb
    split at h1 <;> simp at h1
    rename_i hl
    subst h1
    simp only [List.mapM_cons, Option.bind_eq_bind, Option.bind_eq_some_iff, Option.pure_def, Option.some.injEq] at h2
    obtain ⟨x, hx, ys, hy, rfl⟩ := h2
    obtain ⟨e1, l1, h3, h4⟩ := hg _ _ _ _ ha hx
    obtain ⟨e2, l2, h5, h6⟩ := ih _ _ _ hb hy
    refine ⟨by simp [e1, e2], l1 ++ l2, h3.app h5, ?_⟩
    rw [List.length_append, hl, List.take_add, List.drop_drop, ← ho]
    rw [← ho] at h6
    exact h4.app h6

theorem fl_rows {ρ : Ro} {r : List Value → Option (DataW H × List MemPlace)} {ke : List K} (hg : ∀ cs x, r cs = some x → Read ρ cs ke x.2) (cs : List Value) :
    ∀ (n i : Nat) (xs : List (DataW H × List MemPlace)), ((List.range' i n).mapM fun i => r ((cs.drop (i * ke.length)).take ke.length)) = some xs →
      Read ρ ((cs.drop (i * ke.length)).take (n * ke.length)) (List.replicate n ke).flatten (xs.flatMap (·.2)) := by
  intro n
  induction n with
  | zero => intro i xs h; simp at h; subst h; exact ⟨rfl, [], .nil, by simp; exact .nil⟩
  | succ n ih =>
    intro i xs h
    simp only [List.range'_succ, List.mapM_cons, Option.bind_eq_bind, Option.bind_eq_some_iff, Option.pure_def, Option.some.injEq] at h
    obtain ⟨x, hx, ys, hy, rfl⟩ := h
    obtain ⟨e1, l1, h3, h4⟩ := hg _ _ hx
    obtain ⟨e2, l2, h5, h6⟩ := ih _ _ hy
    refine ⟨by simp [e1, e2], l1 ++ l2, by rw [List.replicate_succ, List.flatten_cons]; exact h3.app h5, ?_⟩
    rw [Nat.add_mul, Nat.one_mul, Nat.add_comm (n * _), List.take_add, List.drop_drop]
    rw [Nat.add_mul, Nat.one_mul] at h6
    exact h4.app h6

theorem trod_fl {ρ : Ro} : ∀ (m d : Nat) (t : TypeId) (cs : List Value) (x : DataW H × List MemPlace) (ks : List K), flK P d t = some ks → DataW.trod enc P w base sp held m t cs = some x → Read ρ cs ks x.2 := by
  intro m
  induction m with
  | zero => intro d t cs x ks _ h; simp [DataW.trod] at h
  | succ m ih =>
    intro d t cs x ks hk h
    cases d with
    | zero => simp [flK] at hk
    | succ d =>
      simp only [flK] at hk
      split at hk
      · rename_i hu; simp at hk; subst hk
        simp only [DataW.trod, hu] at h
        split at h <;> simp_all
        subst h
        exact ⟨rfl, [.b _], .cons trivial .nil, .cons rfl .nil⟩
      · rename_i k hu; simp at hk; subst hk
        simp only [DataW.trod, hu] at h
        split at h <;> simp_all
        obtain ⟨⟨rfl, hw⟩, rfl⟩ := h
        exact ⟨rfl, int_fit hw⟩
      · rename_i hu; simp at hk; subst hk
        simp only [DataW.trod, hu] at h
        split at h <;> simp_all
        obtain ⟨hw, rfl⟩ := h
        have hw' : _ ≤ 9223372036854775807 := hw
        exact ⟨rfl, [.s _], .cons hw' .nil, .cons ⟨rfl, hw'⟩ .nil⟩
      · rename_i fs hu
        simp only [Option.bind_eq_some_iff] at hk
        obtain ⟨l, hl, hk⟩ := hk
        split at hk <;> simp at hk
        rename_i hlen
        subst hk
        simp only [DataW.trod, hu] at h
        split at h
        · rename_i hcl
          simp only [Option.map_eq_some_iff] at h
          obtain ⟨xs, hx, rfl⟩ := h
          have := fl_fields (fun t cs x ks h1 h2 => ih d t cs x ks h1 h2) cs _ _ _ _ hl hx
          rw [List.drop_zero, hlen, ← hcl, List.take_length] at this
          exact this
        · simp at h
      · rename_i n e hu
        simp only [Option.bind_eq_some_iff] at hk
        obtain ⟨l, hl, hk⟩ := hk
        split at hk <;> simp at hk
        rename_i hlen
        subst hk
        simp only [DataW.trod, hu] at h
        split at h
        · rename_i hcl
          simp only [Option.map_eq_some_iff] at h
          obtain ⟨xs, hx, rfl⟩ := h
          rw [List.range_eq_range', ← hlen.1] at hx
          have := fl_rows (r := fun c => DataW.trod enc P w base sp held m e c) (ke := l) (fun cs x h2 => ih d e cs x l hl h2) cs n 0 xs hx
          rw [Nat.zero_mul, List.drop_zero, hlen.2, ← hcl, List.take_length] at this
          exact this
        · simp at h
      · simp at hk
end

/-! ### what a law is given -/
inductive Par where
  | fl (agg : Bool) (ks : List K)
  | sl (ks : List K)
def parT (P : Program) (t : TypeId) : Option Par :=
  match P.underlying t with
  | some (.slice e) => (flK P 20 e).bind fun l => if l.length = P.cellsOf e ∧ 0 < l.length then some (.sl l) else none
  | some (.struct _) | some (.array _ _) => (flK P 20 t).map (.fl true)
  | some (.int _) | some .bool | some .string => (flK P 20 t).map (.fl false)
  | _ => none
def parsT (P : Program) : List TypeId → Option (List Par)
  | [] => some []
  | t :: r => match parT P t, parsT P r with
    | some a, some b => some (a :: b)
    | _, _ => none
def SigA : List Par → List AV → AH → Prop
  | [], [], _ => True
  | .fl true ks :: ps, .g l :: avs, H => L2 FitK l ks ∧ SigA ps avs H
  | .fl false ks :: ps, .c s :: avs, H => L2 FitK [s] ks ∧ SigA ps avs H
  | .sl _ :: ps, .c .nils :: avs, H => SigA ps avs H
  | .sl ks :: ps, .c (.sl id 0 0 n) :: avs, H => id < H.length ∧ (hg H id).row = 0 ∧ (hg H id).owned = false ∧ n ≤ 9223372036854775807 ∧ (hg H id).cells.length = n * ks.length ∧ L2 FitK (hg H id).cells (List.replicate n ks).flatten ∧ SigA ps avs H
  | _, _, _ => False

theorem SigA.app {X : AH} : ∀ {ps : List Par} {avs : List AV} {H : AH}, SigA ps avs H → SigA ps avs (H ++ X) := by
  intro ps avs H
  fun_induction SigA ps avs H with
  | case1 => intro _; trivial
  | case2 ks ps l avs H ih => rintro ⟨h1, h2⟩; exact ⟨h1, ih h2⟩
  | case3 ks ps l avs H ih => rintro ⟨h1, h2⟩; exact ⟨h1, ih h2⟩
  | case4 ks ps avs H ih => intro h; exact ih h
  | case5 ks ps id n avs H ih =>
    rintro ⟨h1, h2, h3, h4, h5, h6, h7⟩
    have e := hg_lt' (X := X) h1
    exact ⟨by simp; omega, by rw [e]; exact h2, by rw [e]; exact h3, h4, by rw [e]; exact h5, by rw [e]; exact h6, ih h7⟩
  | case6 => intro h; simp [SigA] at h

theorem HR.view {ρ : Ro} {w : World} {H : AH} (h : HR ρ w H) (o : AObj) (L : Loc) (ho : o.owned = false) (hO : ORel (upd ρ H.length L) w H.length o) (hown : ∀ i, (hg H i).owned = false) :
    HR (upd ρ H.length L) w (H ++ [o]) ∧ Stab ρ (upd ρ H.length L) ∧ ∀ i, (hg (H ++ [o]) i).owned = false := by
  have hst : Stab ρ (upd ρ H.length L) := by
    intro i Li hi
    have : i ≠ H.length := by rintro rfl; rw [h.fresh _ (Nat.le_refl _)] at hi; simp at hi
    exact ⟨Li, by rw [upd_ne _ _ this, hi], .inl rfl⟩
  have hown' : ∀ i, (hg (H ++ [o]) i).owned = false := by
    intro i; rw [hg_append]; split
    · exact ho
    · exact hown i
  refine ⟨⟨fun i => ?_, fun i j Li Lj _ hio => ?_, fun i hi => ?_⟩, hst, hown'⟩
  · rw [hg_append]; split
    · subst_vars; exact hO
    · rename_i hne
      exact (h.obj i).keep hst (upd_ne _ _ hne) (fun _ _ _ _ => rfl) (Nat.le_refl _)
  · rw [hown'] at hio; simp at hio
  · simp at hi; rw [upd_ne _ _ (by omega)]; exact h.fresh i (by omega)

section
variable {T : Type} {enc : TypeId × Value → T} {w : World}
theorem cells_get {w : World} {a : Addr} {n : Nat} {cs : List Value} (h : w.cells? 0 a n = some cs) : cs.length = n ∧ ∀ i v, cs[i]? = some v → w.cell? (a.add i) = some v := by
  simp only [World.cells?, Nat.zero_le, if_true] at h
  have key : ∀ (n i0 : Nat) (cs : List Value), ((List.range' i0 n).mapM fun i => w.cell? (a.add i)) = some cs → cs.length = n ∧ ∀ i v, cs[i]? = some v → w.cell? (a.add (i0 + i)) = some v := by
    intro n
    induction n with
    | zero => intro i0 cs h; simp at h; subst h; simp
    | succ n ih =>
      intro i0 cs h
      simp only [List.range'_succ, List.mapM_cons, Option.bind_eq_bind, Option.bind_eq_some_iff, Option.pure_def, Option.some.injEq] at h
      obtain ⟨x, hx, ys, hy, rfl⟩ := h
      obtain ⟨e1, e2⟩ := ih _ _ hy
      refine ⟨by simp [e1], fun i v hv => ?_⟩
      cases i with
      | zero => simp at hv; subst hv; exact hx
      | succ i => have := e2 i v (by simpa using hv); rw [show i0 + (i + 1) = i0 + 1 + i by omega]; exact this
  rw [List.range_eq_range'] at h
  obtain ⟨e1, e2⟩ := key n 0 cs h
  exact ⟨e1, fun i v hv => by have := e2 i v hv; rwa [Nat.zero_add] at this⟩

theorem add_add {a : Addr} {i j : Nat} : (a.add i).add j = a.add (i + j) := by
  simp only [Addr.add]
  by_cases h1 : i = 0
  · subst h1; simp
  · by_cases h2 : j = 0
    · subst h2; simp [h1]
    · simp [h1, h2, Nat.add_assoc]
theorem cell_plain {a : Addr} {v : Value} (h : w.cell? (a.add 0) = some v) (j : Nat) : w.cell? (a.add j) = w.cell? ⟨a.block, a.off + j, none⟩ ∧ a.block < w.heap.size ∧ a = ⟨a.block, a.off + 0, none⟩ := by
  have e0 : a.add 0 = a := by simp [Addr.add]
  rw [e0] at h
  unfold World.cell? at h
  split at h
  · rename_i c _ _ hb
    split at h
    · simp at h
    · rename_i hs
      have hlt : a.block < w.heap.size := by
        rcases Nat.lt_or_ge a.block w.heap.size with h | h
        · exact h
        · rw [Array.getElem?_eq_none h] at hb; simp at hb
      have ha : a = ⟨a.block, a.off, none⟩ := by
        cases a with
        | mk x y z => cases z <;> simp at hs ⊢
      refine ⟨?_, hlt, ha⟩
      have : a.add j = ⟨a.block, a.off + j, none⟩ := by
        rw [ha]; simp only [Addr.add]
        by_cases hj : j = 0
        · subst hj; simp
        · rw [if_neg hj]
      rw [this]
  · simp at h
/-- a slice's elements, as cells -/
theorem sl_rows {ρ : Ro} {m : Nat} {e : TypeId} {a : Addr} {ke : List K} (hk : flK P 20 e = some ke) (hl : ke.length = P.cellsOf e) :
    ∀ (n i : Nat) (xs : List (DataW T × List MemPlace)), ((List.range' i n).mapM fun i => (w.cells? 0 (a.add (i * P.cellsOf e)) (P.cellsOf e)).bind (DataW.trod enc P w 0 (fun _ => true) true m e)) = some xs →
      ∃ l, l.length = n * ke.length ∧ L2 FitK l (List.replicate n ke).flatten ∧ ∀ j s, l[j]? = some s → ∃ v, w.cell? (a.add (i * ke.length + j)) = some v ∧ SRel ρ s v := by
  intro n
  induction n with
  | zero => intro i xs h; exact ⟨[], by simp, .nil, by simp⟩
  | succ n ih =>
    intro i xs h
    simp only [List.range'_succ, List.mapM_cons, Option.bind_eq_bind, Option.bind_eq_some_iff, Option.pure_def, Option.some.injEq] at h
    obtain ⟨x, ⟨cs, hc, hx⟩, ys, hy, rfl⟩ := h
    obtain ⟨l2, h5, h6, h7⟩ := ih (i + 1) ys (by simpa only [Option.bind_eq_bind] using hy)
    obtain ⟨hcl, hcg⟩ := cells_get hc
    obtain ⟨_, l1, h3, h4⟩ := trod_fl (ρ := ρ) m 20 e cs x ke hk hx
    have hl1 : l1.length = ke.length := by rw [h4.length, hcl, hl]
    refine ⟨l1 ++ l2, by rw [List.length_append, hl1, h5, Nat.add_mul, Nat.one_mul, Nat.add_comm], by rw [List.replicate_succ, List.flatten_cons]; exact h3.app h6, fun j s hj => ?_⟩
    rcases Nat.lt_or_ge j l1.length with hlt | hge
    · rw [List.getElem?_append_left hlt] at hj
      obtain ⟨v, hv, hr⟩ := h4.get? j s hj
      refine ⟨v, ?_, hr⟩
      have := hcg j v hv
      rw [← hl] at this
      rw [← add_add]; exact this
    · rw [List.getElem?_append_right hge] at hj
      obtain ⟨v, hv, hr⟩ := h7 _ s hj
      refine ⟨v, ?_, hr⟩
      rw [← hv]; congr 2
      rw [hl1] at hge ⊢
      rw [Nat.add_mul, Nat.one_mul]; omega

theorem args_rel : ∀ (ts : List TypeId) (pars : List Par) (vs : List Value) (ds : List (DataW T)) (ps : List MemPlace), parsT P ts = some pars → DataW.TrodAll enc P w 0 (fun _ => true) true ts vs ds ps →
    (∀ (j : Nat) t v, ts[j]? = some t → vs[j]? = some v → ∃ base, Value.okWide P w .any base t v) →
    ds.length = pars.length ∧ ∃ H ρ avs, SigA pars avs H ∧ L2 (VRel ρ) avs vs ∧ HR ρ w H ∧ ∀ i, (hg H i).owned = false := by
  intro ts
  induction ts with
  | nil =>
    intro pars vs ds ps hp h _
    simp [parsT] at hp; subst hp
    obtain ⟨rfl, rfl, rfl⟩ := ChangeShapes.trodAll_nil h
    exact ⟨rfl, [], ρ0, [], trivial, .nil, HR.nil w, fun i => by rw [hg_ge _ (Nat.zero_le _)]; rfl⟩
  | cons t ts ih =>
    intro pars vs ds ps hp h hok
    simp only [parsT] at hp
    split at hp <;> simp at hp
    rename_i par pars' hp1 hp2
    subst hp
    obtain ⟨v, vs', d, ds', p, q, rfl, rfl, rfl, h1, h2⟩ := ChangeShapes.trodAll_cons h
    obtain ⟨e0, H, ρ, avs, g1, g2, g3, g4⟩ := ih _ _ _ _ hp2 h2 fun j t v h1 h2 => hok (j + 1) t v (by simpa using h1) (by simpa using h2)
    obtain ⟨base, hv⟩ := hok 0 t v rfl rfl
    refine ⟨by simp [e0], ?_⟩
    obtain ⟨fuel, hf⟩ := h1
    unfold parT at hp1
    have flat : ∀ (b : Bool), (flK P 20 t).map (.fl b) = some par → (b = true → ∃ cs, v = .agg cs) → (b = false → ∃ u, v.cells.toList = [u] ∧ v = u) →
        ∃ H ρ avs, SigA (par :: pars') avs H ∧ L2 (VRel ρ) avs (v :: vs') ∧ HR ρ w H ∧ ∀ i, (hg H i).owned = false := by
      intro b hb h1 h2
      simp only [Option.map_eq_some_iff] at hb
      obtain ⟨ks, hk, rfl⟩ := hb
      obtain ⟨_, l, h3, h4⟩ := trod_fl (ρ := ρ) fuel 20 t _ _ ks hk hf
      cases b with
      | true =>
        obtain ⟨cs, rfl⟩ := h1 rfl
        exact ⟨H, ρ, .g l :: avs, ⟨h3, g1⟩, .cons ⟨cs.toList, by simp, h4⟩ g2, g3, g4⟩
      | false =>
        obtain ⟨u, e1, rfl⟩ := h2 rfl
        rw [e1] at h4
        cases h4 with
        | cons h5 h6 => cases h6; exact ⟨H, ρ, .c _ :: avs, ⟨h3, g1⟩, .cons h5 g2, g3, g4⟩
    split at hp1
    · rename_i e hu
      simp only [Option.bind_eq_some_iff] at hp1
      obtain ⟨ke, hk, hp1⟩ := hp1
      split at hp1 <;> simp at hp1
      rename_i hl
      subst hp1
      obtain ⟨a0, len, cap, rfl⟩ := WideShapes.okWide_slice hu hv
      cases fuel with
      | zero => simp [DataW.trod] at hf
      | succ fuel =>
        cases a0 with
        | none =>
          cases len <;> cases cap <;> simp [DataW.trod, hu, Value.cells] at hf
          exact ⟨H, ρ, .c .nils :: avs, g1, .cons rfl g2, g3, g4⟩
        | some a =>
          simp only [DataW.trod, hu, Value.cells] at hf
          split at hf
          · rename_i hc
            obtain ⟨_, hlc, hcm⟩ := hc
            have hcm' : cap ≤ 9223372036854775807 := hcm
            simp only [Option.bind_eq_some_iff] at hf
            obtain ⟨xs, hx, _⟩ := hf
            rw [List.range_eq_range'] at hx
            obtain ⟨l, r1, r2, r3⟩ := sl_rows (ρ := ρ) hk hl.1 len 0 xs hx
            by_cases hn : len = 0
            · subst hn
              have hn' : l = [] := List.eq_nil_of_length_eq_zero (by rw [r1]; simp)
              subst hn'
              obtain ⟨k1, k2, k3⟩ := g3.view .dead ⟨0, 0, 0, 1, false, false⟩ rfl trivial g4
              refine ⟨H ++ [.dead], _, .c (.sl H.length 0 0 0) :: avs, ?_, .cons ⟨_, _, _, upd_same _ _ _, rfl, by simp, by omega, by omega, by simp, by simp⟩ (g2.mono fun _ _ h => h.mono k2), k1, k3⟩
              have e : hg (H ++ [AObj.dead]) H.length = .dead := by rw [hg_append, if_pos rfl]
              exact ⟨by simp, by rw [e]; rfl, by rw [e]; rfl, by omega, by rw [e]; simp [AObj.cells], by rw [e]; exact .nil, g1.app⟩
            · have hpos : 0 < len * ke.length := Nat.mul_pos (by omega) hl.2
              obtain ⟨v0, hv0, _⟩ := r3 0 l[0] (by rw [List.getElem?_eq_getElem])
              rw [Nat.zero_mul, Nat.zero_add] at hv0
              have hpl := fun j => cell_plain hv0 j
              obtain ⟨k1, k2, k3⟩ := g3.view (.view l) ⟨a.block, a.off, cap, 0, false, false⟩ rfl
                ⟨_, upd_same _ _ _, rfl, rfl, by simp, fun _ => (hpl 0).2.1, fun j s hj => by
                  obtain ⟨v, hv, hr⟩ := r3 j s hj
                  rw [Nat.zero_mul, Nat.zero_add] at hv
                  refine ⟨v, by rw [← (hpl j).1]; exact hv, hr.mono ?_⟩
                  intro i Li hi
                  have : i ≠ H.length := by rintro rfl; rw [g3.fresh _ (Nat.le_refl _)] at hi; simp at hi
                  exact ⟨Li, by rw [upd_ne _ _ this, hi], .inl rfl⟩⟩ g4
              refine ⟨H ++ [.view l], _, .c (.sl H.length 0 0 len) :: avs, ?_, .cons ⟨_, some a, cap, upd_same _ _ _, rfl, by simp, hlc, by omega, by simp, fun _ => ?_⟩ (g2.mono fun _ _ h => h.mono k2), k1, k3⟩
              · have e : hg (H ++ [AObj.view l]) H.length = .view l := by rw [hg_append, if_pos rfl]
                exact ⟨by simp, by rw [e]; rfl, by rw [e]; rfl, by omega, by rw [e]; exact r1, by rw [e]; exact r2, g1.app⟩
              · rw [if_neg (by simp)]
                exact ⟨a, rfl, fun _ => (hpl 0).2.2, by simp, by simp⟩
          · simp at hf
    · rename_i hu
      exact flat true hp1 (fun _ => by simp only [Value.okWide, hu] at hv; obtain ⟨cs, rfl, _⟩ := hv; exact ⟨cs, rfl⟩) (by simp)
    · rename_i hu
      exact flat true hp1 (fun _ => by simp only [Value.okWide, hu] at hv; obtain ⟨cs, rfl, _⟩ := hv; exact ⟨cs, rfl⟩) (by simp)
    · rename_i hu
      exact flat false hp1 (by simp) (fun _ => by obtain ⟨n, rfl⟩ := WideShapes.okWide_int hu hv; exact ⟨_, rfl, rfl⟩)
    · rename_i hu
      exact flat false hp1 (by simp) (fun _ => by obtain ⟨n, rfl⟩ := WideShapes.okWide_bool hu hv; exact ⟨_, rfl, rfl⟩)
    · rename_i hu
      exact flat false hp1 (by simp) (fun _ => by obtain ⟨n, rfl⟩ := WideShapes.okWide_string hu hv; exact ⟨_, rfl, rfl⟩)
    · simp at hp1

theorem trodAll_stays (hl : laidOutB P = true) {W W' : World} {sp' : Nat → Bool} : ∀ {ts : List TypeId} {vs : List Value} {ds : List (DataW T)} {ps : List MemPlace}, (∀ t ∈ ts, P.readableRec t = true ∧ t < P.types.size) →
    DataW.TrodAll enc P W 0 (fun _ => true) true ts vs ds ps → (∀ p ∈ ps, W.sameAt W' p) → (∀ p ∈ ps, sp' p.block = true) → DataW.TrodAll enc P W' 0 sp' true ts vs ds ps := by
  intro ts
  induction ts with
  | nil =>
    intro vs ds ps _ h _ _
    obtain ⟨rfl, rfl, rfl⟩ := ChangeShapes.trodAll_nil h
    rfl
  | cons t ts ih =>
    intro vs ds ps hr h hs hp
    obtain ⟨v, vs', d, ds', p, q, rfl, rfl, rfl, h1, h2⟩ := ChangeShapes.trodAll_cons h
    obtain ⟨r1, r2⟩ := hr t (List.mem_cons_self ..)
    exact ⟨p, q, WideElems.Trod_stays hl r1 r2 h1 (fun x hx => hs x (List.mem_append_left _ hx)) (fun x hx => hp x (List.mem_append_left _ hx)),
      ih (fun t ht => hr t (List.mem_cons_of_mem _ ht)) h2 (fun x hx => hs x (List.mem_append_right _ hx)) (fun x hx => hp x (List.mem_append_right _ hx)), rfl⟩
end

/-- a law's contract, out of a walk over whatever it is given -/
theorem law_post {H : Type} {enc : TypeId × Value → H} {C : Checked} {f : FuncId} {fn : Func} {s : ChangeSpec} {pars : List Par} {sf : List AV → AH → Option AV} {tb : TypeId} {apart fresh handsOn again : Bool}
    (hc : FpOk C.prog f fun a H => (sf a H).map fun v => (v, H)) (hs : ∀ avs H, SigA pars avs H → sf avs H = some (.c (.b true)))
    (hp : parsT C.prog fn.params.toList = some pars) (hl : laidOutB C.prog = true) (hr : (fn.params.toList.all fun t => C.prog.readableRec t && decide (t < C.prog.types.size)) = true)
    (hres : fn.resultTypes = #[tb]) (hb : C.prog.underlying tb = some .bool) (hv : s.vars = [])
    (hfn : ∀ ds : List (DataW H), ds.length = pars.length → s.fn H ds = { results := [.lit (.bool true)], args := ds })
    (W : World) (base : Nat) (args : Array Value) (ds gs : List (DataW H)) (before : List MemPlace)
    (hval : ∀ (j : Nat) t v, fn.params[j]? = some t → args[j]? = some v → Value.okWide C.prog W .any base t v)
    (hW : DataW.Whole enc C.prog fn.params.toList s.vars apart W args.toList ds gs before) :
    Calls C.prog f args W fun e W' => ∃ v, e = .returned v ∧ s.post enc C.prog fn apart fresh handsOn again W args v W' := by
  have hW' := hW
  obtain ⟨p, q, hA, hV, rfl, hfz, hnd⟩ := hW
  rw [hv] at hV
  obtain ⟨rfl, rfl⟩ := ChangeShapes.trodVars_none hV
  obtain ⟨hlen, Hh, ρ, avs, h1, h2, h3, h4⟩ := args_rel (w := W) _ _ _ _ _ hp hA fun j t v e1 e2 => ⟨base, hval j t v (by simpa using e1) (by simpa using e2)⟩
  have hsf := hs avs Hh h1
  have hcall := hc.runs avs Hh (.c (.b true)) Hh (by simp [hsf]) ρ W args.toList h2 h3
  rw [Array.toArray_toList] at hcall
  refine hcall.mono fun e W' ⟨vc, ρ', he, hvc, _, _, hk, _⟩ => ?_
  have hvb : vc = .bool true := hvc
  subst hvb
  have hnone : ∀ b, ¬ Owns ρ Hh b := by rintro b ⟨i, L, o1, _⟩; rw [h4 i] at o1; simp at o1
  have hk' : Keep W (fun _ => False) W' := ⟨hk.os, hk.tape, hk.output, hk.size, fun b hb _ => hk.old b hb (hnone b), fun b c t f hf hm => hk.free b c t f hf (hm.imp (fun x => x) (fun x => x.elim))⟩
  have hg := hk'.grown
  have hblk : ∀ x ∈ p ++ [], W.sameAt W' x := fun x hx => by
    have hlt := hW'.lt x hx
    exact RowKit.Below.same (w' := W') ⟨hk'.os, hk'.tape, hk'.output, hk'.size, fun k hk2 => hk'.old k hk2 (fun f => f)⟩ hlt
  have hr' : ∀ t ∈ fn.params.toList, C.prog.readableRec t = true ∧ t < C.prog.types.size := by
    intro t ht
    have := List.all_eq_true.1 hr t ht
    simpa using this
  refine ⟨.bool true, he, ChangeShapes.post_of_same (pa := p) (pv := []) hW' ?_ ?_ ?_ rfl (hg.frame _) hg.2.1 (RowKit.ok_one hres rfl (RowKit.okWide_bool_mk hb _))⟩
  · intro b sp hd
    rw [hfn (ds ++ []) (by simpa using hlen), hres]
    exact trodAll_cons_mk (RowKit.shut_bool hb true) ChangeShapes.trodAll_mk0
  · intro sp hsp
    rw [hfn (ds ++ []) (by simpa using hlen), List.append_nil]
    exact trodAll_stays hl hr' hA (fun x hx => hblk x (by simpa using hx)) (fun x hx => hsp x (by simpa using hx))
  · intro sp _
    rw [hv, hfn (ds ++ []) (by simpa using hlen)]; rfl

/-- a function of values alone reads nothing -/
theorem PuOk.fq {f : Nat} {s : List AV → Option AV} (h : PuOk P f s) : FpOk P f fun a H => (s a).map fun v => (v, H) := by
  refine ⟨h.enters, fun args H v H' hs => ?_, fun args H v H' hs ρ w cs hcs hH => ?_⟩
  · simp only [Option.map_eq_some_iff, Prod.mk.injEq] at hs; obtain ⟨_, _, _, rfl⟩ := hs; exact Nat.le_refl _
  · simp only [Option.map_eq_some_iff, Prod.mk.injEq] at hs
    obtain ⟨v', h1, rfl, rfl⟩ := hs
    refine (h.pure args v' h1 ρ w cs hcs).mono fun e w' ⟨vc, he, hv, hk⟩ => ?_
    exact ⟨vc, ρ, he, hv ρ, hH.keep hk, Stab.refl ρ, ⟨hk.os, hk.tape, hk.output, hk.size, fun b hb _ => hk.old b hb (fun f => f), fun b c t f hf hm => by
      rcases hm with hm | hm
      · exact hk.free b c t f hf (.inl hm)
      · rcases Nat.lt_or_ge b w.heap.size with hlt | hge
        · rw [hk.old b hlt (fun f => f)] at hf; exact hH.frozen b c t f hf hm
        · exact hk.free b c t f hf (.inl hge)⟩, fun b hb => .inl hb⟩

/-! ### what is given, taken apart -/
theorem sig_nil {avs : List AV} {H : AH} (h : SigA [] avs H) : avs = [] := by
  cases avs with
  | nil => rfl
  | cons a r => simp [SigA] at h
theorem sig_g {ks : List K} {ps : List Par} {avs : List AV} {H : AH} (h : SigA (.fl true ks :: ps) avs H) : ∃ l r, avs = .g l :: r ∧ L2 FitK l ks ∧ SigA ps r H := by
  cases avs with
  | nil => simp [SigA] at h
  | cons a r => cases a <;> simp [SigA] at h; exact ⟨_, r, rfl, h⟩
theorem sig_c {k : K} {ps : List Par} {avs : List AV} {H : AH} (h : SigA (.fl false [k] :: ps) avs H) : ∃ s r, avs = .c s :: r ∧ FitK s k ∧ SigA ps r H := by
  cases avs with
  | nil => simp [SigA] at h
  | cons a r =>
    cases a <;> simp [SigA] at h
    obtain ⟨h1, h2⟩ := h
    cases h1 with
    | cons h3 _ => exact ⟨_, r, rfl, h3, h2⟩
theorem sig_sl {ks : List K} {ps : List Par} {avs : List AV} {H : AH} (h : SigA (.sl ks :: ps) avs H) : ∃ r, SigA ps r H ∧ (avs = .c .nils :: r ∨ ∃ id n, avs = .c (.sl id 0 0 n) :: r ∧
    id < H.length ∧ (hg H id).row = 0 ∧ (hg H id).owned = false ∧ n ≤ 9223372036854775807 ∧ (hg H id).cells.length = n * ks.length ∧ L2 FitK (hg H id).cells (List.replicate n ks).flatten) := by
  cases avs with
  | nil => simp [SigA] at h
  | cons a r =>
    cases a with
    | c s =>
      cases s with
      | nils => exact ⟨r, by simpa [SigA] using h, .inl rfl⟩
      | sl id off ver n =>
        cases off <;> cases ver <;> simp [SigA] at h
        obtain ⟨h1, h2, h3, h4, h5, h6, h7⟩ := h
        exact ⟨r, h7, .inr ⟨id, n, rfl, h1, h2, h3, h4, h5, h6⟩⟩
      | _ => simp [SigA] at h
    | g l => simp [SigA] at h
    | t l => simp [SigA] at h
theorem fk_i {s : Sc} (h : FitK s (.n .i64)) : ∃ x, s = .i x ∧ -9223372036854775808 ≤ x ∧ x ≤ 9223372036854775807 := by
  cases s with
  | i x => exact ⟨x, rfl, h⟩
  | k kd x => simp only [FitK] at h; obtain ⟨rfl, h, _⟩ := h; simp [IntKind.bits] at h
  | _ => simp [FitK] at h
theorem fk_u {s : Sc} (h : FitK s (.n .u64)) : ∃ x, s = .u x := by
  cases s with
  | u x => exact ⟨x, rfl⟩
  | k kd x => simp only [FitK] at h; obtain ⟨rfl, h, _⟩ := h; simp [IntKind.bits] at h
  | _ => simp [FitK] at h
theorem fk_q {s : Sc} (h : FitK s .q) : ∃ x, s = .b x := by
  unfold FitK at h; split at h <;> simp_all
theorem fk_s {s : Sc} (h : FitK s .s) : ∃ x, s = .s x ∧ x.size ≤ 9223372036854775807 := by
  unfold FitK at h; split at h <;> simp_all
theorem fit_cons {l : List Sc} {k : K} {ks : List K} (h : L2 FitK l (k :: ks)) : ∃ s r, l = s :: r ∧ FitK s k ∧ L2 FitK r ks := by
  cases h with
  | cons h1 h2 => exact ⟨_, _, rfl, h1, h2⟩
theorem fit_nil {l : List Sc} (h : L2 FitK l []) : l = [] := by cases h; rfl

end Go.Am
