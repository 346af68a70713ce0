/- Layer 12: locks as they stand in memory, and as a plain list. -/
import Derived.Test.YthfccacopffkgaaLk1
namespace Go.Proofs.Ythfccacopffkgaa
open Go.Am
set_option linter.unusedSimpArgs false
set_option linter.unusedVariables false
noncomputable section

/-! ### plain -/
abbrev LS := List (Int × List Int)
def rgtS (S : LS) (w a : Int) : Bool := decide (0 ≤ w) && decide (w < 8) && decide (0 ≤ a) && decide (a < S.length)
def atS (S : LS) (a : Int) : Int × List Int := S.getD a.toNat (-1, [])
def tkB (S : LS) (w a : Int) : Bool := rgtS S w a && (decide ((atS S a).1 = w) || decide ((atS S a).1 < 0))
def tkS (S : LS) (w a : Int) : LS :=
  if rgtS S w a = true then
    if (atS S a).1 = w then S
    else if (atS S a).1 < 0 then S.set a.toNat (w, [])
    else if w ∈ (atS S a).2 then S
    else S.set a.toNat ((atS S a).1, (atS S a).2 ++ [w])
  else S
def drB (S : LS) (w a : Int) : Bool := rgtS S w a && decide ((atS S a).1 = w)
def drS (S : LS) (w a : Int) : LS :=
  if drB S w a = true then
    match (atS S a).2 with
    | [] => S.set a.toNat (-1, [])
    | x :: r => S.set a.toNat (x, r)
  else S
/-! ### in memory -/
structure En where
  b : Nat
  k : Int
  l : Nat
  h : Int
  x : Sc
  q : List Int
def enM (e : En) : Nat × AV × AV := (e.b, .c (.i e.k), .c (.p e.l 0 0))
def eids (e : En) : List Nat := e.l :: (sidI e.x).toList
structure Ld where
  p : Nat
  m : Nat
  n : Int
  clk : Nat
  es : List En
def Ld.ids (D : Ld) : List Nat := D.p :: D.m :: D.es.flatMap eids
def enS : Option En → Int × List Int
  | some e => (e.h, e.q)
  | none => (-1, [])
def fdK (es : List En) (a : Int) : Option En := es.find? fun e => decide (e.k = a)
def Ld.S (D : Ld) : LS := (List.range D.n.toNat).map fun (k : Nat) => enS (fdK D.es (k : Int))
structure EnOk (n : Int) (clk : Nat) (e : En) : Prop where
  b : e.b < clk
  k0 : 0 ≤ e.k
  kn : e.k < n
  h0 : 0 ≤ e.h
  h8 : e.h < 8
  q : ∀ w ∈ e.q, 0 ≤ w ∧ w < 8
  nd : e.q.Nodup
structure LI (H : AH) (D : Ld) : Prop where
  hp : hg H D.p = .own [.i D.n, .mp D.m]
  hm : hg H D.m = .map D.clk (D.es.map enM)
  he : ∀ e ∈ D.es, hg H e.l = .own [.i e.h, e.x] ∧ isx H e.x e.q
  nd : D.ids.Nodup
  kd : (D.es.map (·.k)).Nodup
  bd : (D.es.map (·.b)).Nodup
  ok : ∀ e ∈ D.es, EnOk D.n D.clk e
  n1 : 1 ≤ D.n
  n128 : D.n ≤ 128
section
variable {H : AH} {D : Ld}
theorem enM_inj {e f : En} (h : enM e = enM f) : e.b = f.b ∧ e.k = f.k ∧ e.l = f.l := by
  simp only [enM, Prod.mk.injEq, AV.c.injEq, Sc.i.injEq, Sc.p.injEq, and_true] at h
  exact h
theorem LI.uniq {E : Ld} (h : LI H D) (h' : LI H E) (e : D.p = E.p) : D = E := by
  have hp := h.hp
  rw [e, h'.hp] at hp
  simp only [AObj.own.injEq, List.cons.injEq, Sc.i.injEq, Sc.mp.injEq, and_true] at hp
  obtain ⟨e1, e2⟩ := hp
  have hm := h.hm
  rw [← e2, h'.hm] at hm
  simp only [AObj.map.injEq] at hm
  obtain ⟨e3, e4⟩ := hm
  have key : ∀ (l m : List En), (∀ e ∈ l, hg H e.l = .own [.i e.h, e.x] ∧ isx H e.x e.q) → (∀ e ∈ m, hg H e.l = .own [.i e.h, e.x] ∧ isx H e.x e.q) → m.map enM = l.map enM → l = m := by
    intro l
    induction l with
    | nil => intro m _ _ hm; cases m with
      | nil => rfl
      | cons _ _ => simp at hm
    | cons a l ih =>
      intro m hl hm' hm
      cases m with
      | nil => simp at hm
      | cons b m =>
        simp only [List.map_cons, List.cons.injEq] at hm
        obtain ⟨g1, g2, g3⟩ := enM_inj hm.1
        obtain ⟨a1, a2⟩ := hl a (by simp)
        obtain ⟨b1, b2⟩ := hm' b (by simp)
        rw [← g3, b1] at a1
        simp only [AObj.own.injEq, List.cons.injEq, Sc.i.injEq, and_true] at a1
        have hq : a.q = b.q := isx_uniq a2 (a1.2 ▸ b2)
        have hab : a = b := by
          cases a; cases b
          simp only at *
          obtain ⟨rfl, rfl⟩ := a1
          subst g1 g2 g3 hq
          rfl
        rw [hab, ih m (fun e he => hl e (by simp [he])) (fun e he => hm' e (by simp [he])) hm.2]
  have hes := key _ _ h.he h'.he e4
  cases D; cases E
  simp only at *
  subst e e1 e2 e3 hes
  rfl
theorem LI.lt (h : LI H D) {i : Nat} (hi : i ∈ D.ids) : i < H.length := by
  simp only [Ld.ids, List.mem_cons, List.mem_flatMap] at hi
  rcases hi with rfl | rfl | ⟨e, he, hi⟩
  · exact hg_lt (by rw [h.hp]; rfl)
  · exact hg_lt (by rw [h.hm]; rfl)
  · obtain ⟨h1, h2⟩ := h.he e he
    simp only [eids, List.mem_cons, Option.mem_toList] at hi
    rcases hi with rfl | hi
    · exact hg_lt (by rw [h1]; rfl)
    · exact (isx_lt h2 hi).1
theorem mem_eids {e : En} (he : e ∈ D.es) {i : Nat} (hi : i ∈ eids e) : i ∈ D.ids := by
  simp only [Ld.ids, List.mem_cons, List.mem_flatMap]
  exact .inr (.inr ⟨e, he, hi⟩)
theorem LI.frame {K : AH} (h : LI H D) (hk : ∀ i ∈ D.ids, hg K i = hg H i) : LI K D := by
  refine ⟨by rw [hk _ (by simp [Ld.ids]), h.hp], by rw [hk _ (by simp [Ld.ids]), h.hm], fun e he => ?_, h.nd, h.kd, h.bd, h.ok, h.n1, h.n128⟩
  obtain ⟨h1, h2⟩ := h.he e he
  exact ⟨by rw [hk _ (mem_eids he (by simp [eids])), h1], isx_frame h2 fun i hi => hk _ (mem_eids he (by simp [eids, hi]))⟩
theorem LI.app (h : LI H D) (X : AH) : LI (H ++ X) D := h.frame fun _ hi => hg_lt' (h.lt hi)
theorem S_len (h : LI H D) : D.S.length = D.n.toNat := by simp [Ld.S]
theorem S_lenI (h : LI H D) : (D.S.length : Int) = D.n := by rw [S_len h]; have := h.n1; omega
theorem S_at (h : LI H D) {a : Int} (h0 : 0 ≤ a) (hn : a < D.n) : atS D.S a = enS (fdK D.es a) := by
  unfold atS Ld.S
  have e : ((a.toNat : Nat) : Int) = a := by omega
  rw [List.getD_eq_getElem?_getD, List.getElem?_map, List.getElem?_range (by omega)]
  simp only [Option.map_some, Option.getD_some, e]
theorem fdK_some {es : List En} {a : Int} {e : En} (h : fdK es a = some e) : e ∈ es ∧ e.k = a := by
  unfold fdK at h
  exact ⟨List.mem_of_find?_eq_some h, by simpa using List.find?_some h⟩
theorem fdK_none {es : List En} {a : Int} (h : fdK es a = none) : ∀ e ∈ es, e.k ≠ a := by
  unfold fdK at h
  intro e he
  simpa using List.find?_eq_none.1 h e he
theorem fdK_split {es : List En} {a : Int} {e : En} (h : fdK es a = some e) : ∃ A B, es = A ++ e :: B ∧ e.k = a ∧ ∀ x ∈ A, x.k ≠ a := by
  unfold fdK at h
  obtain ⟨h1, A, B, h2, h3⟩ := List.find?_eq_some_iff_append.1 h
  exact ⟨A, B, h2, by simpa using h1, fun x hx => by simpa using h3 x hx⟩
/-- what the machine finds -/
def fdE : List En → Int → Nat → Option (Nat × AV)
  | [], _, _ => none
  | e :: es, a, i => if a = e.k then some (i, .c (.p e.l 0 0)) else fdE es a (i + 1)
theorem findA_en {P : Program} {kt : Nat} (hk : kA P kt = some false) (a : Int) : ∀ (es : List En) (i : Nat), findA P kt (.c (.i a)) (es.map enM) i = some (fdE es a i) := by
  intro es
  induction es with
  | nil => intro i; rfl
  | cons e es ih =>
    intro i
    have e1 : kEq P kt (.c (.i a)) (.c (.i e.k)) = some (decide (a = e.k)) := by unfold kEq; rw [hk]
    simp only [List.map_cons, findA, enM, e1, fdE]
    by_cases c : a = e.k
    · simp [c]
    · rw [decide_eq_false c, if_neg c]; exact ih _
theorem fdE_none {es : List En} {a : Int} (h : fdK es a = none) : ∀ i, fdE es a i = none := by
  have hn := fdK_none h
  clear h
  induction es with
  | nil => intro i; rfl
  | cons e es ih =>
    intro i
    rw [fdE, if_neg (fun c => hn e (by simp) c.symm)]
    exact ih (fun x hx => hn x (by simp [hx])) _
theorem fdE_app {A B : List En} {e : En} {a : Int} (he : e.k = a) (hA : ∀ x ∈ A, x.k ≠ a) : ∀ i, fdE (A ++ e :: B) a i = some (i + A.length, .c (.p e.l 0 0)) := by
  induction A with
  | nil => intro i; rw [List.nil_append, fdE, if_pos he.symm]; rfl
  | cons x A ih =>
    intro i
    rw [List.cons_append, fdE, if_neg (fun c => hA x (by simp) c.symm), ih (fun x hx => hA x (by simp [hx]))]
    simp only [List.length_cons]
    congr 2
    omega
theorem LI.find (h : LI H D) (a : Int) : (fdK D.es a = none ∧ ∀ i, fdE D.es a i = none) ∨ ∃ A e B, D.es = A ++ e :: B ∧ e.k = a ∧ fdK D.es a = some e ∧ (∀ x ∈ A, x.k ≠ a) ∧ ∀ i, fdE D.es a i = some (i + A.length, .c (.p e.l 0 0)) := by
  cases hf : fdK D.es a with
  | none => exact .inl ⟨rfl, fdE_none hf⟩
  | some e =>
    obtain ⟨A, B, h1, h2, h3⟩ := fdK_split hf
    exact .inr ⟨A, e, B, h1, h2, rfl, h3, by rw [h1]; exact fdE_app h2 h3⟩
theorem LI.qlen (h : LI H D) {e : En} (he : e ∈ D.es) : e.q.length ≤ 8 := by
  have h1 := (h.ok e he).q
  have h2 := (h.ok e he).nd
  have key : ∀ (n : Nat) (l : List Int), l.Nodup → (∀ w ∈ l, 0 ≤ w ∧ w < n) → l.length ≤ n := by
    intro n
    induction n with
    | zero => intro l _ hl; cases l with
      | nil => simp
      | cons a l => have := hl a (by simp); omega
    | succ n ih =>
      intro l hn hl
      have := ih (l.erase (n : Int)) (hn.erase _) (fun w hw => by
        have a := hl w (List.mem_of_mem_erase hw)
        have b : w ≠ (n : Int) := fun e => by subst e; exact (List.Nodup.not_mem_erase hn) hw
        omega)
      rw [List.length_erase] at this
      split at this <;> omega
  exact key 8 _ h2 (by simpa using h1)
end
/-- what stays -/
structure LKp (H K : AH) (D E : Ld) : Prop where
  p : E.p = D.p
  n : E.n = D.n
  len : H.length ≤ K.length
  old : ∀ i, i < H.length → i ∉ D.ids → hg K i = hg H i
  ids : ∀ i ∈ E.ids, i ∈ D.ids ∨ H.length ≤ i
theorem LKp.refl {H : AH} {D : Ld} : LKp H H D D := ⟨rfl, rfl, Nat.le_refl _, fun _ _ _ => rfl, fun _ h => .inl h⟩
theorem LKp.app {H X : AH} {D : Ld} : LKp H (H ++ X) D D := ⟨rfl, rfl, by simp, fun _ h _ => hg_lt' h, fun _ h => .inl h⟩
theorem LKp.trans {H K J : AH} {D E F : Ld} (h : LKp H K D E) (h' : LKp K J E F) : LKp H J D F :=
  ⟨h'.p.trans h.p, h'.n.trans h.n, Nat.le_trans h.len h'.len, fun i hi hn => by
    rw [h'.old i (Nat.lt_of_lt_of_le hi h.len) (fun hm => (h.ids i hm).elim hn (fun hle => by omega)), h.old i hi hn], fun i hi => by
    rcases h'.ids i hi with h1 | h1
    · exact h.ids i h1
    · exact .inr (Nat.le_trans h.len h1)⟩
theorem nd_repl {α : Type} {l1 l2 l3 m : List α} (h : (l1 ++ (l2 ++ l3)).Nodup) (h2 : m.Nodup) (hs : ∀ x ∈ m, x ∈ l2 ∨ (x ∉ l1 ∧ x ∉ l3)) : (l1 ++ (m ++ l3)).Nodup := by
  rw [List.nodup_append] at h ⊢
  obtain ⟨a, b, c⟩ := h
  rw [List.nodup_append] at b
  obtain ⟨d, e, f⟩ := b
  refine ⟨a, List.nodup_append.2 ⟨h2, e, fun x hx y hy hxy => ?_⟩, fun x hx y hy hxy => ?_⟩
  · subst hxy
    rcases hs x hx with g | g
    · exact f x g x hy rfl
    · exact g.2 hy
  · subst hxy
    rcases List.mem_append.1 hy with g | g
    · rcases hs x g with k | k
      · exact c x hx x (List.mem_append_left _ k) rfl
      · exact k.1 hx
    · exact c x hx x (List.mem_append_right _ g) rfl
theorem S_ext {D E : Ld} (hn : E.n = D.n) {a : Int} (h0 : 0 ≤ a) (h : ∀ k, k ≠ a → fdK E.es k = fdK D.es k) : E.S = D.S.set a.toNat (enS (fdK E.es a)) := by
  unfold Ld.S
  rw [hn]
  apply List.ext_getElem?
  intro k
  rw [List.getElem?_set, List.getElem?_map, List.getElem?_map]
  rcases Nat.lt_or_ge k D.n.toNat with hk | hk
  · rw [List.getElem?_range hk]
    by_cases e : a.toNat = k
    · have e2 : (k : Int) = a := by omega
      simp [e, hk, e2]
    · have e2 : (k : Int) ≠ a := by omega
      simp [e, h _ e2]
  · rw [List.getElem?_eq_none (by simpa using hk)]
    simp; omega
/-- an entry is told anew -/
theorem LI.repl {H K : AH} {D : Ld} {A B : List En} {e f : En} (h : LI H D) (hes : D.es = A ++ e :: B) (hlen : H.length ≤ K.length) (hold : ∀ i, i < H.length → i ∉ eids e → hg K i = hg H i)
    (hf : f.l = e.l ∧ f.k = e.k ∧ f.b = e.b) (hl : hg K e.l = .own [.i f.h, f.x]) (hxq : isx K f.x f.q) (hs : ∀ i, sidI f.x = some i → sidI e.x = some i ∨ H.length ≤ i) (hok : EnOk D.n D.clk f) :
    LI K { D with es := A ++ f :: B } ∧ LKp H K D { D with es := A ++ f :: B } ∧ ({ D with es := A ++ f :: B } : Ld).S = D.S.set e.k.toNat (f.h, f.q) := by
  obtain ⟨f1, f2, f3⟩ := hf
  have hnd := h.nd
  have hids : D.ids = (D.p :: D.m :: A.flatMap eids) ++ (eids e ++ B.flatMap eids) := by simp [Ld.ids, hes]
  have hids2 : ({ D with es := A ++ f :: B } : Ld).ids = (D.p :: D.m :: A.flatMap eids) ++ (eids f ++ B.flatMap eids) := by simp [Ld.ids]
  have hem : e ∈ D.es := by rw [hes]; simp
  have hlt : ∀ i ∈ D.ids, i < H.length := fun i hi => h.lt hi
  rw [hids] at hnd hlt
  have hsep : ∀ i ∈ (D.p :: D.m :: A.flatMap eids), i ∉ eids e := fun i hi hc => by
    rw [List.nodup_append] at hnd
    exact hnd.2.2 i hi i (List.mem_append_left _ hc) rfl
  have hsepB : ∀ i ∈ B.flatMap eids, i ∉ eids e := fun i hi hc => by
    rw [List.nodup_append] at hnd
    have := hnd.2.1
    rw [List.nodup_append] at this
    exact this.2.2 i hc i hi rfl
  have hsub : ∀ x ∈ eids f, x ∈ eids e ∨ H.length ≤ x := by
    intro x hx
    simp only [eids, List.mem_cons, Option.mem_toList] at hx ⊢
    rcases hx with rfl | hx
    · exact .inl (.inl f1)
    · rcases hs x hx with g | g
      · exact .inl (.inr g)
      · exact .inr g
  have hother : ∀ x ∈ A ++ B, x ∈ D.es ∧ ∀ i ∈ eids x, hg K i = hg H i := by
    intro x hx
    have hxm : x ∈ D.es := by rw [hes]; rcases List.mem_append.1 hx with g | g <;> simp [g]
    refine ⟨hxm, fun i hi => hold i (h.lt (mem_eids hxm hi)) ?_⟩
    rcases List.mem_append.1 hx with g | g
    · exact hsep i (by simp only [List.mem_cons, List.mem_flatMap]; exact .inr (.inr ⟨x, g, hi⟩))
    · exact hsepB i (List.mem_flatMap.2 ⟨x, g, hi⟩)
  have hmap : (A ++ f :: B).map enM = D.es.map enM := by rw [hes]; simp [enM, f1, f2, f3]
  have hmapk : (A ++ f :: B).map (·.k) = D.es.map (·.k) := by rw [hes]; simp [f2]
  have hmapb : (A ++ f :: B).map (·.b) = D.es.map (·.b) := by rw [hes]; simp [f3]
  refine ⟨⟨?_, ?_, ?_, ?_, ?_, ?_, ?_, h.n1, h.n128⟩, ⟨rfl, rfl, hlen, fun i hi hn => hold i hi (fun hc => hn (mem_eids hem hc)), ?_⟩, ?_⟩
  · show hg K D.p = _
    rw [hold _ (hlt _ (by simp)) (hsep _ (by simp)), h.hp]
  · show hg K D.m = _
    rw [hold _ (hlt _ (by simp)) (hsep _ (by simp)), h.hm, ← hmap]
  · intro x hx
    rcases List.mem_append.1 hx with g | g
    · obtain ⟨a, b⟩ := hother x (List.mem_append_left _ g)
      obtain ⟨c, d⟩ := h.he x a
      exact ⟨by rw [b _ (by simp [eids]), c], isx_frame d fun i hi => b _ (by simp [eids, hi])⟩
    · rcases List.mem_cons.1 g with rfl | g
      · exact ⟨by rw [f1]; exact hl, hxq⟩
      · obtain ⟨a, b⟩ := hother x (List.mem_append_right _ g)
        obtain ⟨c, d⟩ := h.he x a
        exact ⟨by rw [b _ (by simp [eids]), c], isx_frame d fun i hi => b _ (by simp [eids, hi])⟩
  · rw [hids2]
    refine nd_repl hnd ?_ fun x hx => ?_
    · simp only [eids]
      cases hsx : sidI f.x with
      | none => simp
      | some j =>
        simp only [Option.toList_some, List.nodup_cons, List.mem_singleton, List.not_mem_nil, not_false_eq_true, List.nodup_nil, and_self, and_true]
        intro hj
        rcases hs j hsx with g | g
        · have : (eids e).Nodup := by rw [List.nodup_append] at hnd; have := hnd.2.1; rw [List.nodup_append] at this; exact this.1
          simp [eids, g] at this
          exact this (by rw [← f1, hj])
        · have := h.lt (mem_eids hem (show e.l ∈ eids e by simp [eids]))
          omega
    · rcases hsub x hx with g | g
      · exact .inl g
      · exact .inr ⟨fun hc => by have := hlt x (List.mem_append_left _ hc); omega, fun hc => by have := hlt x (List.mem_append_right _ (List.mem_append_right _ hc)); omega⟩
  · rw [hmapk]; exact h.kd
  · rw [hmapb]; exact h.bd
  · intro x hx
    rcases List.mem_append.1 hx with g | g
    · exact h.ok x (hother x (List.mem_append_left _ g)).1
    · rcases List.mem_cons.1 g with rfl | g
      · exact hok
      · exact h.ok x (hother x (List.mem_append_right _ g)).1
  · intro i hi
    rw [hids2] at hi
    rw [hids]
    rcases List.mem_append.1 hi with g | g
    · exact .inl (List.mem_append_left _ g)
    · rcases List.mem_append.1 g with g | g
      · rcases hsub i g with k | k
        · exact .inl (List.mem_append_right _ (List.mem_append_left _ k))
        · exact .inr k
      · exact .inl (List.mem_append_right _ (List.mem_append_right _ g))
  · have hA : ∀ x ∈ A, x.k ≠ e.k := by
      have := h.kd
      rw [hes, List.map_append, List.nodup_append] at this
      exact fun x hx hc => this.2.2 x.k (List.mem_map.2 ⟨x, hx, rfl⟩) e.k (by simp) hc
    have e1 : fdK (A ++ f :: B) e.k = some f := by
      unfold fdK
      rw [List.find?_append, List.find?_eq_none.2 (fun x hx => by simpa using hA x hx), Option.none_or, List.find?_cons]
      simp [f2]
    rw [S_ext (D := D) (E := { D with es := A ++ f :: B }) rfl (a := e.k) (h.ok e hem).k0 (fun k hk => ?_)]
    · show D.S.set _ (enS (fdK (A ++ f :: B) e.k)) = _
      rw [e1]; rfl
    · show fdK (A ++ f :: B) k = fdK D.es k
      rw [hes]
      unfold fdK
      rw [List.find?_append, List.find?_append, List.find?_cons, List.find?_cons]
      rw [decide_eq_false (show ¬ f.k = k from fun c => hk (by rw [← c, f2])), decide_eq_false (show ¬ e.k = k from fun c => hk c.symm)]
/-- an entry more -/
theorem LI.more {H K : AH} {D : Ld} {f : En} (h : LI H D) (hlen : H.length ≤ K.length) (hold : ∀ i, i < H.length → i ≠ D.m → hg K i = hg H i) (hm : hg K D.m = .map (D.clk + 1) (D.es.map enM ++ [enM f]))
    (hfr : fdK D.es f.k = none) (hb : f.b = D.clk) (hl : H.length ≤ f.l) (hlv : hg K f.l = .own [.i f.h, f.x]) (hxq : isx K f.x f.q) (hsx : ∀ i, sidI f.x = some i → H.length ≤ i ∧ i ≠ f.l) (hok : EnOk D.n (D.clk + 1) f) :
    LI K { D with clk := D.clk + 1, es := D.es ++ [f] } ∧ LKp H K D { D with clk := D.clk + 1, es := D.es ++ [f] } ∧ ({ D with clk := D.clk + 1, es := D.es ++ [f] } : Ld).S = D.S.set f.k.toNat (f.h, f.q) := by
  have hk0 := hok.k0
  have hkn := hok.kn
  have hge : ∀ i ∈ eids f, H.length ≤ i := by
    intro i hi
    simp only [eids, List.mem_cons, Option.mem_toList] at hi
    rcases hi with rfl | hi
    · exact hl
    · exact (hsx i hi).1
  have hfn : (eids f).Nodup := by
    simp only [eids]
    cases hs : sidI f.x with
    | none => simp
    | some j =>
      have := (hsx j hs).2
      simp only [Option.toList_some, List.nodup_cons, List.mem_singleton, List.not_mem_nil, not_false_eq_true, List.nodup_nil, and_self, and_true]
      exact fun c => this c.symm
  have hmn : ∀ i ∈ D.es.flatMap eids, i ≠ D.m ∧ i < H.length := by
    intro i hi
    have hnd := h.nd
    refine ⟨fun c => ?_, h.lt (by simp [Ld.ids] at hi ⊢; exact .inr (.inr hi))⟩
    simp only [Ld.ids, List.nodup_cons] at hnd
    exact hnd.2.1 (c ▸ hi)
  have hpm : D.p ≠ D.m := by
    have hnd := h.nd
    simp only [Ld.ids, List.nodup_cons, List.mem_cons, not_or] at hnd
    exact hnd.1.1
  have hids2 : ({ D with clk := D.clk + 1, es := D.es ++ [f] } : Ld).ids = D.ids ++ eids f := by simp [Ld.ids]
  have hn := fdK_none hfr
  refine ⟨⟨?_, ?_, ?_, ?_, ?_, ?_, ?_, h.n1, h.n128⟩, ⟨rfl, rfl, hlen, fun i hi hnn => hold i hi (fun c => hnn (by simp [Ld.ids, c])), ?_⟩, ?_⟩
  · show hg K D.p = _
    rw [hold _ (h.lt (by simp [Ld.ids])) hpm, h.hp]
  · show hg K D.m = .map (D.clk + 1) ((D.es ++ [f]).map enM)
    rw [hm]; simp
  · intro x hx
    rcases List.mem_append.1 hx with g | g
    · obtain ⟨c, d⟩ := h.he x g
      have hh : ∀ i ∈ eids x, hg K i = hg H i := fun i hi => by
        have := hmn i (List.mem_flatMap.2 ⟨x, g, hi⟩)
        exact hold i this.2 this.1
      exact ⟨by rw [hh _ (by simp [eids]), c], isx_frame d fun i hi => hh _ (by simp [eids, hi])⟩
    · rw [List.mem_singleton] at g
      subst g
      exact ⟨hlv, hxq⟩
  · rw [hids2, List.nodup_append]
    refine ⟨h.nd, hfn, fun x hx y hy hxy => ?_⟩
    have := h.lt hx
    have := hge y hy
    omega
  · simp only [List.map_append, List.map_cons, List.map_nil]
    rw [List.nodup_append]
    refine ⟨h.kd, by simp, fun x hx y hy hxy => ?_⟩
    rw [List.mem_singleton] at hy
    obtain ⟨z, hz, rfl⟩ := List.mem_map.1 hx
    exact hn z hz (hxy.trans hy)
  · simp only [List.map_append, List.map_cons, List.map_nil]
    rw [List.nodup_append]
    refine ⟨h.bd, by simp, fun x hx y hy hxy => ?_⟩
    rw [List.mem_singleton] at hy
    obtain ⟨z, hz, rfl⟩ := List.mem_map.1 hx
    have := (h.ok z hz).b
    omega
  · intro x hx
    rcases List.mem_append.1 hx with g | g
    · have := h.ok x g
      exact ⟨Nat.lt_succ_of_lt this.b, this.k0, this.kn, this.h0, this.h8, this.q, this.nd⟩
    · rw [List.mem_singleton] at g
      subst g
      exact hok
  · intro i hi
    rw [hids2] at hi
    rcases List.mem_append.1 hi with g | g
    · exact .inl g
    · exact .inr (hge i g)
  · rw [S_ext (D := D) (E := { D with clk := D.clk + 1, es := D.es ++ [f] }) rfl (a := f.k) hk0 (fun k hk => ?_)]
    · show D.S.set _ (enS (fdK (D.es ++ [f]) f.k)) = _
      have : fdK (D.es ++ [f]) f.k = some f := by
        have hfr' := hfr
        unfold fdK at hfr' ⊢
        rw [List.find?_append, hfr']; simp
      rw [this]; rfl
    · show fdK (D.es ++ [f]) k = fdK D.es k
      unfold fdK
      rw [List.find?_append]
      simp [show ¬ f.k = k from fun c => hk c.symm]
/-- an entry less -/
theorem LI.less {H K : AH} {D : Ld} {A B : List En} {e : En} (h : LI H D) (hes : D.es = A ++ e :: B) (hlen : H.length ≤ K.length) (hold : ∀ i, i < H.length → i ≠ D.m → hg K i = hg H i) (hm : hg K D.m = .map D.clk ((A ++ B).map enM)) :
    LI K { D with es := A ++ B } ∧ LKp H K D { D with es := A ++ B } ∧ ({ D with es := A ++ B } : Ld).S = D.S.set e.k.toNat (-1, []) := by
  have hsubl : (A ++ B).Sublist D.es := by rw [hes]; exact List.Sublist.append_left (List.sublist_cons_self e B) A
  have hsub : ∀ x ∈ A ++ B, x ∈ D.es := fun x hx => hsubl.subset hx
  have hidl : (({ D with es := A ++ B } : Ld).ids).Sublist D.ids := by
    simp only [Ld.ids, hes, List.flatMap_append, List.flatMap_cons]
    exact ((List.Sublist.append_left (List.sublist_append_right _ _) _).cons_cons _).cons_cons _
  have hem : e ∈ D.es := by rw [hes]; simp
  have hmn : ∀ i ∈ D.es.flatMap eids, i ≠ D.m ∧ i < H.length := by
    intro i hi
    have hnd := h.nd
    refine ⟨fun c => ?_, h.lt (by simp [Ld.ids] at hi ⊢; exact .inr (.inr hi))⟩
    simp only [Ld.ids, List.nodup_cons] at hnd
    exact hnd.2.1 (c ▸ hi)
  have hpm : D.p ≠ D.m := by
    have hnd := h.nd
    simp only [Ld.ids, List.nodup_cons, List.mem_cons, not_or] at hnd
    exact hnd.1.1
  refine ⟨⟨?_, hm, ?_, hidl.nodup h.nd, (hsubl.map _).nodup h.kd, (hsubl.map _).nodup h.bd, fun x hx => h.ok x (hsub x hx), h.n1, h.n128⟩, ⟨rfl, rfl, hlen, fun i hi hnn => hold i hi (fun c => hnn (by simp [Ld.ids, c])), fun i hi => .inl (hidl.subset hi)⟩, ?_⟩
  · show hg K D.p = _
    rw [hold _ (h.lt (by simp [Ld.ids])) hpm, h.hp]
  · intro x hx
    obtain ⟨c, d⟩ := h.he x (hsub x hx)
    have hh : ∀ i ∈ eids x, hg K i = hg H i := fun i hi => by
      have := hmn i (List.mem_flatMap.2 ⟨x, hsub x hx, hi⟩)
      exact hold i this.2 this.1
    exact ⟨by rw [hh _ (by simp [eids]), c], isx_frame d fun i hi => hh _ (by simp [eids, hi])⟩
  · have hkd := h.kd
    rw [hes, List.map_append, List.map_cons, List.nodup_append, List.nodup_cons] at hkd
    have hA : ∀ x ∈ A, x.k ≠ e.k := fun x hx hc => hkd.2.2 x.k (List.mem_map.2 ⟨x, hx, rfl⟩) e.k (by simp) hc
    have hB : ∀ x ∈ B, x.k ≠ e.k := fun x hx hc => hkd.2.1.1 (hc ▸ List.mem_map.2 ⟨x, hx, rfl⟩)
    rw [S_ext (D := D) (E := { D with es := A ++ B }) rfl (a := e.k) (h.ok e hem).k0 (fun k hk => ?_)]
    · show D.S.set _ (enS (fdK (A ++ B) e.k)) = _
      have : fdK (A ++ B) e.k = none := by
        unfold fdK
        rw [List.find?_eq_none]
        intro x hx
        rcases List.mem_append.1 hx with g | g
        · simpa using hA x g
        · simpa using hB x g
      rw [this]; rfl
    · show fdK (A ++ B) k = fdK D.es k
      rw [hes]
      unfold fdK
      rw [List.find?_append, List.find?_append, List.find?_cons]
      rw [decide_eq_false (show ¬ e.k = k from fun c => hk c.symm)]
end
end Go.Proofs.Ythfccacopffkgaa
