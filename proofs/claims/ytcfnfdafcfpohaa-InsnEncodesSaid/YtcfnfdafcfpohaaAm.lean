/- An abstract machine for the model, part 2: its runs, and that they are the model's: no conditions. -/
import Derived.Test.YtcfnfdafcfpohaaAl
import Derived.Scope
import Derived.ScopeJumps
set_option linter.unusedSimpArgs false
set_option linter.unusedVariables false
/- Operations that make objects or change them. -/
namespace Go.Am
variable {P : Program} {ρ : Ro}

def Sc.one : Sc → Bool
  | .any | .und => false
  | _ => true

/-- operations that make an object or change one: the value, and the heap behind it -/
def eop (P : Program) (op : Op) (vs : List AV) (H : AH) : Option (AV × AH) :=
  match op, vs with
  | .alloc t, [] =>
    match zT P t with
    | some z => some (.c (.p H.length 0 0), H ++ [.own z])
    | none => none
  | .box _ _, [x] =>
    match x.cells with
    | some l => some (.c (.p H.length 0 0), H ++ [.own l])
    | none => none
  | .buildSlice t len ps, vs =>
    match dT P t with
    | .sl e =>
      match zT P e with
      | some z =>
        if 0 < szT P e ∧ 0 < len ∧ len * szT P e ≤ 16777216 ∧ z.length = szT P e then
          match fillA (fun i => some (i * szT P e, szT P e)) (List.replicate len z).flatten ((ps.toList.map (·.1)).zip vs) with
          | some cs => some (.c (.sl H.length 0 cs.length len), H ++ [.vec (szT P e) cs])
          | none => none
        else if 0 < szT P e ∧ len = 0 ∧ ps.size = 0 then some (.c (.sl H.length 0 0 0), H ++ [.vec (szT P e) []])
        else none
      | none => none
    | _ => none
  | .makeSlice t _ _, [.c (.i l), .c (.i c)] =>
    match dT P t with
    | .sl e =>
      match zT P e with
      | some z =>
        if l = c ∧ 0 ≤ l ∧ l ≤ 1048576 ∧ 0 < szT P e ∧ byT P e ≤ 1048576 ∧ z.length = szT P e then
          some (.c (.sl H.length 0 (l.toNat * szT P e) l.toNat), H ++ [.vec (szT P e) (List.replicate l.toNat z).flatten])
        else none
      | none => none
    | _ => none
  | .store t _ _, [.c (.p id off ver), x] =>
    match x.cells with
    | some l =>
      if (hg H id).owned = true ∧ ver = (hg H id).row ∧ l.length = szT P t ∧ 0 < szT P t ∧ off + l.length ≤ (hg H id).cells.length ∧ l.all Sc.one = true then
        some (.c .und, H.set id ((hg H id).put (wr (hg H id).cells off l)))
      else none
    | none => none
  | _, _ => none

/-- the relation behind an operation that keeps all locations, and makes one object at most -/
structure Eff (ρ : Ro) (w : World) (H : AH) (w' : World) (ρ' : Ro) (H' : AH) : Prop where
  hr : HR ρ' w' H'
  st : Stab ρ ρ'
  kp : ∀ w0 M, Keep w0 M w → (∀ i L, (hg H i).owned = true → ρ i = some L → L.nil = false → (M L.blk ∨ w0.heap.size ≤ L.blk)) →
    Keep w0 M w' ∧ (∀ i L, (hg H' i).owned = true → ρ' i = some L → L.nil = false → (M L.blk ∨ w0.heap.size ≤ L.blk))
  len : H.length ≤ H'.length
  mv : ∀ i L, (hg H i).owned = false → ρ i = some L → ρ' i = some L

theorem Eff.alloc {w : World} {H : AH} (h : HR ρ w H) {l : List Sc} {c : List Value} (hl : L2 (SRel ρ) l c) (t : Nat) (o : AObj) (L : Loc) (hb : L.blk = w.heap.size) (hoff : L.off = 0) (hnil : L.nil = false)
    (hrow : L.row = o.row) (ho : (o = .own l ∧ L.vec = false) ∨ (∃ sz, o = .vec sz l ∧ L.vec = true ∧ 0 < sz ∧ L.cap * sz = c.length)) :
    Eff ρ w H (w.alloc (.cells c.toArray t)) (upd ρ H.length L) (H ++ [o]) := by
  obtain ⟨h1, h2⟩ := h.alloc hl t o L hb hoff hnil hrow ho
  refine ⟨h1, h2, fun w0 M hk hm => ⟨hk.alloc _ _, fun i Li hio hLi hni => ?_⟩, by simp, fun i Li _ hLi => ?_⟩
  · by_cases e : i = H.length
    · subst e; rw [upd_same] at hLi; simp at hLi; subst hLi
      exact .inr (by rw [hb]; exact hk.size)
    · rw [upd_ne _ _ e] at hLi
      rw [hg_append, if_neg e] at hio
      exact hm i Li hio hLi hni
  · have : i ≠ H.length := by rintro rfl; rw [h.fresh _ (Nat.le_refl _)] at hLi; simp at hLi
    rw [upd_ne _ _ this, hLi]

/-- what an operation comes to, when it hands back a value -/
def Come (P : Program) (ρ : Ro) (H : AH) (w : World) (s : Sem Next) (v : AV) (H' : AH) : Prop :=
  ∃ w' ρ', Eff ρ w H w' ρ' H' ∧ ((∃ vc, s.run P w = .ok (.value vc) w' ∧ VRel ρ' v vc) ∨ (s.run P w = .ok .skip w' ∧ v = .c .und))

theorem own_alloc {w : World} {H : AH} (h : HR ρ w H) {l : List Sc} {c : List Value} (hl : L2 (SRel ρ) l c) (t : Nat) :
    Eff ρ w H (w.alloc (.cells c.toArray t)) (upd ρ H.length ⟨w.heap.size, 0, 0, 0, false, false⟩) (H ++ [.own l]) ∧
      VRel (upd ρ H.length ⟨w.heap.size, 0, 0, 0, false, false⟩) (.c (.p H.length 0 0)) (.pointer (some ⟨w.heap.size, 0, none⟩)) :=
  ⟨Eff.alloc h hl t _ _ rfl rfl rfl rfl (.inl ⟨rfl, rfl⟩), ⟨_, _, upd_same _ _ _, rfl, Nat.le_refl _, fun _ => ⟨rfl, by simp, rfl⟩⟩⟩

theorem vec_alloc {w : World} {H : AH} (h : HR ρ w H) {l : List Sc} {c : List Value} (hl : L2 (SRel ρ) l c) (t sz n : Nat) (hsz : 0 < sz) (hn : n * sz = c.length) (hn2 : n ≤ 9223372036854775807) :
    Eff ρ w H (w.alloc (.cells c.toArray t)) (upd ρ H.length ⟨w.heap.size, 0, n, l.length, false, true⟩) (H ++ [.vec sz l]) ∧
      VRel (upd ρ H.length ⟨w.heap.size, 0, n, l.length, false, true⟩) (.c (.sl H.length 0 l.length n)) (.slice (some ⟨w.heap.size, 0, none⟩) n n) := by
  refine ⟨Eff.alloc h hl t _ _ rfl rfl rfl rfl (.inr ⟨sz, rfl, rfl, hsz, hn⟩), _, _, _, upd_same _ _ _, rfl, by simp, Nat.le_refl _, hn2, Nat.le_refl _, fun _ => ?_⟩
  rw [if_neg (by simp)]
  refine ⟨_, rfl, fun _ => rfl, fun _ _ => rfl, fun h0 _ => ?_⟩
  show 0 < l.length
  rw [hl.length, ← hn]; exact Nat.mul_pos h0 hsz

theorem run_fill_range {z : List Value} (n sz : Nat) (hz : z.length = sz) : (Array.range (n * sz)).map (fun x => z.toArray[x % z.toArray.size]!) = (List.replicate n z).flatten.toArray := by
  apply Array.ext'
  simp only [Array.toList_map, Array.toList_range, List.size_toArray]
  induction n with
  | zero => simp
  | succ n ih =>
    have e1 : (n + 1) * sz = n * sz + sz := by rw [Nat.add_mul, Nat.one_mul]
    rw [e1, List.range_add, List.map_append, ih, List.replicate_succ', List.flatten_append]
    congr 1
    simp only [List.map_map, List.flatten_cons, List.flatten_nil, List.append_nil]
    apply List.ext_getElem (by simp [hz])
    intro i h1 h2
    simp at h1
    have : (n * sz + i) % z.length = i := by rw [hz, Nat.mul_comm, Nat.mul_add_mod]; exact Nat.mod_eq_of_lt h1
    simp [this, h2]

theorem L2.rep {α β : Type} {R : α → β → Prop} {l : List α} {m : List β} (h : L2 R l m) (n : Nat) : L2 R (List.replicate n l).flatten (List.replicate n m).flatten := by
  induction n with
  | zero => exact .nil
  | succ n ih => simp only [List.replicate_succ, List.flatten_cons]; exact h.app ih

theorem fillA_len (place : Nat → Option (Nat × Nat)) : ∀ (ps : List (Nat × AV)) (z r : List Sc), fillA place z ps = some r → r.length = z.length := by
  intro ps
  induction ps with
  | nil => intro z r h; simp [fillA] at h; rw [h]
  | cons p ps ih =>
    intro z r h
    obtain ⟨i, v⟩ := p
    simp only [fillA] at h
    split at h
    · split at h
      · rename_i hc
        rw [ih _ _ h]; simp [wr]; omega
      · simp at h
    · simp at h



theorem HR.set {w w' : World} {H : AH} (h : HR ρ w H) {id : Nat} {L : Loc} {ob : Obj} {o' : AObj} (hown : (hg H id).owned = true) (hL : ρ id = some L) (hnil : L.nil = false)
    (hs : SetB w w' L.blk ob) (ho' : ORel ρ w' id o') : HR ρ w' (H.set id o') := by
  have hid := hg_lt (AObj.owned_live hown)
  refine ⟨fun i => ?_, fun i j Li Lj hij hio hLi hni hjl hLj hnj => ?_, fun i hi => h.fresh i (by simpa using hi)⟩
  · rw [hg_set _ _ _ _ hid]
    split
    · subst_vars; exact ho'
    · rename_i hne
      refine (h.obj i).keep (Stab.refl ρ) rfl (fun Li hi hn hl => ?_) (by rw [hs.size]; omega)
      exact hs.other _ (fun e => h.sep id i L Li (fun e => hne e.symm) hown hL hnil hl hi hn e.symm)
  · have hio' : (hg H i).owned = true := by
      rw [hg_set _ _ _ _ hid] at hio
      split at hio
      · subst_vars; exact hown
      · exact hio
    have hjl' : (hg H j).live = true := by
      rw [hg_set _ _ _ _ hid] at hjl
      split at hjl
      · subst_vars; exact AObj.owned_live hown
      · exact hjl
    exact h.sep i j Li Lj hij hio' hLi hni hjl' hLj hnj

theorem Eff.set {w w' : World} {H : AH} (h : HR ρ w H) {id : Nat} {L : Loc} {c : Array Value} {t : Nat} {o' : AObj} (hown : (hg H id).owned = true) (hL : ρ id = some L) (hnil : L.nil = false)
    (hs : SetB w w' L.blk (.cells c t (0, 0))) (ho' : ORel ρ w' id o') : Eff ρ w H w' ρ (H.set id o') := by
  have hid := hg_lt (AObj.owned_live hown)
  refine ⟨h.set hown hL hnil hs ho', Stab.refl ρ, fun w0 M hk hm => ⟨hk.setB hs (hm id L hown hL hnil), fun i Li hio hLi hni => ?_⟩, by simp, fun _ _ _ h => h⟩
  rw [hg_set _ _ _ _ hid] at hio
  split at hio
  · subst_vars; exact hm _ _ hown hLi hni
  · exact hm _ _ hio hLi hni

theorem one_all {l : List Sc} {c : List Value} (h : L2 (SRel ρ) l c) (ho : l.all Sc.one = true) : ∀ v ∈ c, v.oneCell' = true := by
  induction h with
  | nil => simp
  | @cons s v l c hs _ ih =>
    simp only [List.all_cons, Bool.and_eq_true] at ho
    intro u hu
    rcases List.mem_cons.1 hu with rfl | hu
    · exact (SRel.one hs (by rintro rfl; simp [Sc.one] at ho) (by rintro rfl; simp [Sc.one] at ho)).1
    · exact ih ho.2 u hu

theorem wr_rel {cs l : List Sc} {c v : List Value} (h : L2 (SRel ρ) cs c) (hl : L2 (SRel ρ) l v) (off : Nat) : L2 (SRel ρ) (wr cs off l) (c.take off ++ v ++ c.drop (off + v.length)) := by
  unfold wr; rw [← hl.length]; exact ((h.take off).app hl).app (h.drop _)

theorem store_eff {w : World} {H : AH} (hH : HR ρ w H) {id off : Nat} {L : Loc} {l : List Sc} {cs : List Value} (hown : (hg H id).owned = true) (hL : ρ id = some L) (hnil : L.nil = false) (hl : L2 (SRel ρ) l cs)
    (hoff : off + l.length ≤ (hg H id).cells.length) (hone : l.all Sc.one = true) :
    ∃ w', (storeCells ⟨L.blk, L.off + off, none⟩ cs).run P w = .ok () w' ∧ Eff ρ w H w' ρ (H.set id ((hg H id).put (wr (hg H id).cells off l))) := by
  have hO := hH.obj id
  have hll := hl.length
  cases hh : hg H id with
  | own os =>
    rw [hh] at hO hoff hown
    obtain ⟨L', c, t, h1, h2, h3, h4, h5, h6, h7⟩ := hO
    obtain rfl : L = L' := by simpa [hL] using h1
    have hcl := h7.length
    simp only [AObj.cells] at hoff
    obtain ⟨w', h8, h9⟩ := run_storeCells (P := P) t L.blk cs w c 0 off h6 (one_all hl hone) (by omega)
    rw [h2, Nat.zero_add]
    refine ⟨w', h8, Eff.set hH (by rw [hh]; rfl) hL hnil h9 ?_⟩
    exact ⟨L, _, t, hL, h2, h3, h4, h5, h9.this, by simpa [AObj.cells] using wr_rel h7 hl off⟩
  | vec sz os =>
    rw [hh] at hO hoff hown
    obtain ⟨L', h1, h2, h3, h4, h5, h6⟩ := hO
    obtain rfl : L = L' := by simpa [hL] using h1
    rw [if_neg (by rw [hnil]; simp)] at h6
    obtain ⟨c, d, t, h6, hcap, h7⟩ := h6
    have hcl := h7.length
    simp only [AObj.cells] at hoff
    obtain ⟨w', h8, h9⟩ := run_storeCells (P := P) t L.blk cs w (c ++ d) 0 off h6 (one_all hl hone) (by simp; omega)
    rw [h2, Nat.zero_add]
    refine ⟨w', h8, Eff.set hH (by rw [hh]; rfl) hL hnil h9 ?_⟩
    have e : (c ++ d).take (off + 0) ++ cs ++ (c ++ d).drop (off + 0 + cs.length) = (c.take off ++ cs ++ c.drop (off + cs.length)) ++ d := by
      rw [List.take_append_of_le_length (by omega), List.drop_append_of_le_length (by omega)]; simp
    rw [e] at h9
    refine ⟨L, hL, h2, ?_, h4, h5, ?_⟩
    · rw [h3]; simp [wr, AObj.cells]; omega
    · rw [if_neg (by rw [hnil]; simp)]
      exact ⟨_, d, t, h9.this, by rw [hcap]; simp; omega, wr_rel h7 hl off⟩
  | view os => rw [hh] at hown; simp [AObj.owned] at hown
  | dead => rw [hh] at hown; simp [AObj.owned] at hown

theorem zip_ps {a : Act} (ps : Array (Nat × Operand)) {vs : List AV} (hv : L2 (VRel ρ) vs ((ps.toList.map (·.2)).map a.eval)) :
    L2 (fun (x : Nat × AV) (y : Nat × Value) => x.1 = y.1 ∧ VRel ρ x.2 y.2) ((ps.toList.map (·.1)).zip vs) ((ps.map fun p => (p.1, a.eval p.2)).toList) := by
  have := zip_rel (ρ := ρ) (a := a) ps.toList vs (by simpa [Function.comp_def] using hv)
  simpa using this

theorem eop_run {o : Oper} {a : Act} {H H' : AH} {vs : List AV} {v : AV} {w : World} (h : eop P o.op vs H = some (v, H'))
    (hv : L2 (VRel ρ) vs ((opnds o.op).map a.eval)) (hH : HR ρ w H) : Come P ρ H w (execOp a.eval o) v H' := by
  obtain ⟨dst, op, ty, pos, after, guard⟩ := o
  simp only at h hv
  have fin : ∀ (s : Sem Value), (∃ w' ρ' vc, Eff ρ w H w' ρ' H' ∧ s.run P w = .ok vc w' ∧ VRel ρ' v vc) → Come P ρ H w (do pure (.value (← s)) : Sem Next) v H' := by
    rintro s ⟨w', ρ', vc, h1, h2, h3⟩
    exact ⟨w', ρ', h1, .inl ⟨vc, by simp [h2], h3⟩⟩
  unfold eop at h
  split at h
  · -- alloc
    rename_i t
    split at h <;> simp at h
    rename_i z hz
    obtain ⟨rfl, rfl⟩ := h
    obtain ⟨zv, zc, h1, h2, h3⟩ := zero_rel (ρ := ρ) hz w
    obtain ⟨h4, h5⟩ := own_alloc hH h3 t
    refine fin _ ⟨_, _, _, h4, ?_, h5⟩
    simp only [Instr.alloc, Sem.run_bind, h1, Result.andThen_ok, newVar, newRow, h2, run_newObj, Sem.run_pure]; rfl
  · -- box
    rename_i t x ax
    split at h <;> simp at h
    rename_i l hc
    obtain ⟨rfl, rfl⟩ := h
    obtain ⟨y, hy, h1⟩ := hv.one
    simp only [opnds, List.map_cons, List.map_nil, List.cons.injEq, and_true] at hy; subst hy
    obtain ⟨cs, h2, h3, _⟩ := h1.cells hc
    obtain ⟨h4, h5⟩ := own_alloc hH h3 t
    refine fin _ ⟨_, _, _, h4, ?_, h5⟩
    simp only [Instr.box, newVar, newRow, h2, Sem.run_bind, run_newObj, Result.andThen_ok, Sem.run_pure]; rfl
  · -- buildSlice
    rename_i t len ps
    split at h <;> try (simp at h; done)
    rename_i e hd
    have hu := und_sl hd
    split at h <;> try (simp at h; done)
    rename_i z hz
    split at h
    · rename_i hc
      obtain ⟨hsz, hl, hmax, hzl⟩ := hc
      split at h <;> simp at h
      rename_i cs hf
      obtain ⟨rfl, rfl⟩ := h
      obtain ⟨zv, zc, h1, h2, h3⟩ := zero_rel (ρ := ρ) hz w
      obtain ⟨rc, h4, h5⟩ := fill_rel _ _ _ (zip_ps ps hv) _ _ _ (h3.rep len) hf
      have hlen : len * szT P e = rc.length := by
        rw [← h5.length, fillA_len _ _ _ _ hf]; simp [hzl]
      obtain ⟨h6, h7⟩ := vec_alloc hH h5 e (szT P e) len hsz hlen (by have : len ≤ len * szT P e := Nat.le_mul_of_pos_right _ hsz; omega)
      refine fin _ ⟨_, _, _, h6, ?_, h7⟩
      have hzc : zc.length = szT P e := by rw [← h3.length, hzl]
      have hne : ¬ len * szT P e = 0 := by have := Nat.mul_pos hl hsz; omega
      have hne2 : ¬ len * szT P e > 2 ^ 24 := by omega
      simp only [Instr.buildSlice, Sem.run_bind, run_underlying hu, Result.andThen_ok, run_sizeOf' hsz, hne2, if_false, hne, Sem.run_pure, h1, h2, run_fill_range len _ hzc]
      simp only [Array.toList_map] at h4 ⊢
      rw [h4]
      simp only [newRow, Sem.run_bind, run_newObj, Result.andThen_ok, Sem.run_pure]; rfl
    · split at h <;> simp at h
      rename_i hc
      obtain ⟨hsz, rfl, hps⟩ := hc
      obtain ⟨rfl, rfl⟩ := h
      obtain rfl : ps = #[] := Array.eq_empty_of_size_eq_zero hps
      obtain ⟨h6, h7⟩ := vec_alloc hH (l := []) (c := []) .nil e (szT P e) 0 hsz (by simp) (by omega)
      refine fin _ ⟨_, _, _, h6, ?_, h7⟩
      have e0 : Array.range 0 = #[] := by apply Array.ext'; simp
      simp [Instr.buildSlice, run_underlying hu, run_sizeOf' hsz, Instr.fill, newRow, e0]
  · -- makeSlice
    rename_i t x y l c
    split at h <;> try (simp at h; done)
    rename_i e hd
    have hu := und_sl hd
    split at h <;> try (simp at h; done)
    rename_i z hz
    split at h <;> simp at h
    rename_i hc
    obtain ⟨rfl, h0, hmax, hsz, hby, hzl⟩ := hc
    obtain ⟨rfl, rfl⟩ := h
    obtain ⟨cx, cy, hx, h1, h2⟩ := hv.two
    simp only [opnds, List.map_cons, List.map_nil, List.cons.injEq, and_true] at hx
    obtain ⟨rfl, rfl⟩ := hx
    obtain ⟨h1, _⟩ := h1
    obtain ⟨h2, _⟩ := h2
    obtain ⟨zv, zc, h3, h4, h5⟩ := zero_rel (ρ := ρ) hz w
    obtain ⟨i, hi, his⟩ := info_of hsz
    have hzc : zc.length = szT P e := by rw [← h5.length, hzl]
    have hll : l.toNat * szT P e = ((List.replicate l.toNat z).flatten).length := by simp [hzl]
    have h8 := vec_alloc hH (h5.rep l.toNat) e (szT P e) l.toNat hsz (by simp [hzc]) (by omega)
    rw [← hll] at h8
    obtain ⟨h6, h7⟩ := h8
    refine fin _ ⟨_, _, _, h6, ?_, h7⟩
    have hw : IntKind.i64.wrap l = l := w64_id (by omega) (by omega)
    have hbytes : byT P e = i.bytes := by simp [byT, hi]
    have hb : ¬ ((i.bytes : Int) * l > 2 ^ 48) := by
      rw [← hbytes]
      have : (byT P e : Int) * l ≤ 1048576 * 1048576 := Int.mul_le_mul (by omega) hmax h0 (by omega)
      omega
    have hn : ¬ l < 0 := by omega
    have hn2 : ¬ l > l := by omega
    have hb' : decide ((i.bytes : Int) * l > 2 ^ 48) = false := decide_eq_false hb
    simp only [Instr.makeSlice, Sem.run_bind, run_underlying hu, Result.andThen_ok, h1, h2, asInt, asIntOf, Sem.run_pure, typeInfo, run_program, hi, hw, hb', Bool.false_or, hn, hn2, decide_false, Bool.or_self, Bool.false_eq_true, if_false, run_askRoom, run_sizeOf' hsz]
    by_cases hz0 : l.toNat * szT P e = 0
    · simp only [hz0, if_true, Sem.run_pure, Result.andThen_ok, newRow, Sem.run_bind, run_newObj]
      have e1 : (List.replicate l.toNat zc).flatten = [] := List.eq_nil_of_length_eq_zero (by simp [hzc, hz0])
      have e0 : Array.range 0 = #[] := by apply Array.ext'; simp
      rw [e1, e0]; simp
    · simp only [hz0, if_false, Sem.run_bind, Sem.run_pure, h3, Result.andThen_ok, h4, run_fill_range _ _ hzc, newRow, run_newObj]; rfl
  · -- store
    rename_i t x y id off ver ax
    split at h <;> try (simp at h; done)
    rename_i l hl
    split at h <;> simp at h
    rename_i hc
    obtain ⟨hown, hver, hlen, hsz, hoff, hone⟩ := hc
    obtain ⟨rfl, rfl⟩ := h
    obtain ⟨cx, cy, hx, h1, h2⟩ := hv.two
    simp only [opnds, List.map_cons, List.map_nil, List.cons.injEq, and_true] at hx
    obtain ⟨rfl, rfl⟩ := hx
    obtain ⟨cs, h3, h4, _⟩ := h2.cells hl
    obtain ⟨L, ad, h5, h6, h7, h8⟩ := (show PRel ρ id off ver _ from h1)
    have hrow := (hH.obj id).row h5 (AObj.owned_live hown)
    obtain ⟨hnil, _, rfl⟩ := h8 (by rw [hrow]; exact hver)
    obtain ⟨w', h9, h10⟩ := store_eff (P := P) hH hown h5 hnil h4 hoff hone
    refine ⟨w', ρ, h10, .inr ⟨?_, rfl⟩⟩
    have hcs : cs.toArray.size = szT P t := by simp [← h4.length, hlen]
    simp only [execOp, Sem.run_bind, Instr.storeAt, h6, Instr.sureAddr, Sem.run_pure, Result.andThen_ok, storeVar, run_sizeOf' hsz, h3, hcs, ne_eq, not_true_eq_false, if_false, h9]
  · simp at h

end Go.Am

/- append -/
namespace Go.Am
variable {P : Program} {ρ : Ro}

theorem cells_run {w : World} {i : Nat} {o : AObj} {L : Loc} {off n : Nat} (ho : ORel ρ w i o) (hL : ρ i = some L) (hlen : off + n ≤ o.cells.length) :
    ∃ vs : List Value, vs.length = n ∧ L2 (SRel ρ) ((o.cells.drop off).take n) vs ∧ ∀ w' : World, (∀ j, w'.cell? ⟨L.blk, j, none⟩ = w.cell? ⟨L.blk, j, none⟩) → (loadCells ⟨L.blk, L.off + off, none⟩ n).run P w' = .ok vs.toArray w' := by
  have hcell := fun (j : Nat) (s : Sc) (hs : o.cells[j]? = some s) => ho.cell hL hs
  have key : ∀ (l : List Sc) (p : Nat), (∀ j s, l[j]? = some s → o.cells[p + j]? = some s) → ∃ vs : List Value, L2 (SRel ρ) l vs ∧ ∀ j v, vs[j]? = some v → w.cell? ⟨L.blk, L.off + (p + j), none⟩ = some v := by
    intro l
    induction l with
    | nil => intro p _; exact ⟨[], .nil, by simp⟩
    | cons s l ih =>
      intro p h
      obtain ⟨v, hv, hr⟩ := hcell p s (by simpa using h 0 s (by simp))
      obtain ⟨vs, h1, h2⟩ := ih (p + 1) (fun j s' hs' => by have := h (j + 1) s' (by simpa using hs'); rwa [show p + 1 + j = p + (j + 1) by omega])
      refine ⟨v :: vs, .cons hr h1, fun j u hu => ?_⟩
      cases j with
      | zero => simp at hu; subst hu; exact hv
      | succ j => have := h2 j u (by simpa using hu); rwa [show p + (j + 1) = p + 1 + j by omega]
  obtain ⟨vs, h1, h2⟩ := key ((o.cells.drop off).take n) off (fun j s hs => drop_take_get _ _ _ _ _ hs)
  have hl : vs.length = n := by rw [← h1.length]; simp; omega
  refine ⟨vs, hl, h1, fun w' hw' => ?_⟩
  simp only [loadCells]
  rw [← hl, run_loadCellsFrom w' _ vs 0 #[] (fun j v hv => by rw [Addr.add_none, Nat.zero_add, Nat.add_assoc, hw']; exact h2 j v hv)]
  simp

theorem growBy_le (need : Nat) : ∀ (r c : Nat), Builtin.growBy need r c ≤ max c (2 * need + 1000) := by
  intro r
  induction r with
  | zero => intro c; simp only [Builtin.growBy]; omega
  | succ r ih =>
    intro c
    simp only [Builtin.growBy]
    split
    · omega
    · have := ih (c + (c + 768) / 4); omega
theorem nextcap_le (need cap : Nat) (h : cap < need) : Builtin.nextslicecap need cap ≤ 2 * need + 1000 := by
  unfold Builtin.nextslicecap
  split
  · omega
  · split
    · omega
    · have := growBy_le need 4 cap; omega

/-- the cells that are appended, and how many elements -/
def srcA (H : AH) (sz : Nat) (y : AV) : Option (List Sc × Nat) :=
  match y with
  | .c .nils => some ([], 0)
  | .c (.sl id off ver n) => if ver = (hg H id).row ∧ off + n * sz ≤ (hg H id).cells.length then some (((hg H id).cells.drop off).take (n * sz), n) else none
  | _ => none

def appA (P : Program) (ts : Array TypeId) (vs : List AV) (H : AH) : Option (AV × AH) :=
  match ts[0]?, ts[1]? with
  | some t0, some t1 =>
    match dT P t0, dT P t1, vs with
    | .sl e, .sl _, [x, y] =>
      match srcA H (szT P e) y, zT P e with
      | some (new, n), some z =>
        if 0 < szT P e ∧ 0 < byT P e ∧ byT P e ≤ 1048576 ∧ z.length = szT P e ∧ new.all Sc.one = true then
          match x with
          | .c (.sl id off ver len) =>
            match hg H id with
            | .vec sz cs =>
              if off = 0 ∧ ver = cs.length ∧ sz = szT P e ∧ cs.length = len * szT P e ∧ (len + n) * byT P e ≤ 1099511627776 then
                some (.c (.sl id 0 (cs.length + new.length) (len + n)), H.set id (.vec sz (cs ++ new)))
              else none
            | _ => none
          | .c .nils => if 0 < n ∧ n * byT P e ≤ 1099511627776 then some (.c (.sl H.length 0 new.length n), H ++ [.vec (szT P e) new]) else none
          | _ => none
        else none
      | _, _ => none
    | _, _, _ => none
  | _, _ => none

theorem by_of {e : Nat} {i : TypeInfo} (h : P.info? e = some i) : byT P e = i.bytes := by simp [byT, h]

/-- what is appended, read in the model -/
theorem src_run {w : World} {H : AH} (hH : HR ρ w H) {sz : Nat} {y : AV} {new : List Sc} {n : Nat} {cy : Value} (h : srcA H sz y = some (new, n)) (hy : VRel ρ y cy) :
    ∃ vs : List Value, vs.length = n * sz ∧ L2 (SRel ρ) new vs ∧ (Builtin.lenOf cy).run P w = .ok n w ∧ n ≤ 9223372036854775807 ∧
      ∀ w' : World, (∀ b j, b < w.heap.size → w'.cell? ⟨b, j, none⟩ = w.cell? ⟨b, j, none⟩) → (Builtin.firstCells sz n cy).run P w' = .ok vs.toArray w' := by
  unfold srcA at h
  split at h
  · simp at h; obtain ⟨rfl, rfl⟩ := h
    cases hy
    exact ⟨[], by simp, .nil, by simp [Builtin.lenOf], by omega, fun w' _ => by simp [Builtin.firstCells]⟩
  · rename_i id off ver m
    split at h <;> simp at h
    rename_i hc
    obtain ⟨rfl, rfl⟩ := h
    obtain ⟨L, base, cap, h1, rfl, hn, h2, h3, h4, h5⟩ := (show SlRel ρ id off ver m cy from hy)
    by_cases hm : m * sz = 0
    · refine ⟨[], by simp [hm], by rw [hm]; simp; exact .nil, by simp [Builtin.lenOf], h3, fun w' _ => ?_⟩
      cases base with
      | none => simp [Builtin.firstCells]
      | some a => simp [Builtin.firstCells, hm, loadCells, loadCellsFrom]
    · have hm0 : 0 < m := by rcases Nat.eq_zero_or_pos m with h | h; subst h; simp at hm; exact h
      have hlive : (hg H id).live = true := by
        cases hh : hg H id with
        | dead => rw [hh] at hc; simp [AObj.cells] at hc; omega
        | _ => rfl
      have hrow := (hH.obj id).row h1 hlive
      have h6 := h5 (by rw [hrow]; exact hc.1)
      by_cases hnil : L.nil = true
      · rw [if_pos hnil] at h6; omega
      rw [if_neg hnil] at h6
      obtain ⟨a, rfl, h7, _, _⟩ := h6
      obtain rfl := h7 (.inr hm0)
      obtain ⟨vs, h8, h9, h10⟩ := cells_run (P := P) (hH.obj id) h1 hc.2
      have hblk := (hH.obj id).blk_lt h1 (by simpa using hnil) hlive
      exact ⟨vs, h8, h9, by simp [Builtin.lenOf], h3, fun w' hw' => by simp only [Builtin.firstCells]; exact h10 w' fun j => hw' _ _ hblk⟩
  · simp at h

theorem Keep.drew {w0 w : World} {M : Nat → Prop} (h : Keep w0 M w) : Keep w0 M w.drew := ⟨h.os, h.tape, h.output, h.size, h.old, h.free⟩
theorem ORel.drew {w : World} {i : Nat} {o : AObj} (h : ORel ρ w i o) : ORel ρ w.drew i o := h.keep (Stab.refl ρ) rfl (fun _ _ _ _ => rfl) (Nat.le_refl _)
theorem HR.drew {w : World} {H : AH} (h : HR ρ w H) : HR ρ w.drew H := ⟨fun i => (h.obj i).drew, h.sep, h.fresh⟩

/-- A new block for an object that is there, or the next one. -/
theorem HR.new {w : World} {H H' : AH} (h : HR ρ w H) {l : List Sc} {c d : List Value} (hl : L2 (SRel ρ) l c) (t id sz : Nat) (L : Loc) (hb : L.blk = w.heap.size) (hoff : L.off = 0) (hnil : L.nil = false)
    (hrow : L.row = l.length) (hvec : L.vec = true) (hsz : 0 < sz) (hcap : L.cap * sz = (c ++ d).length) (hst : Stab ρ (upd ρ id L))
    (hH' : ∀ i, hg H' i = if i = id then .vec sz l else hg H i) (hlen : H.length ≤ H'.length) (hid : id < H'.length) : HR (upd ρ id L) (w.alloc (.cells (c ++ d).toArray t)) H' := by
  have hl' : L2 (SRel (upd ρ id L)) l c := hl.mono fun _ _ h => h.mono hst
  refine ⟨?_, ?_, ?_⟩
  · intro i
    rw [hH']
    split
    · subst_vars
      refine ⟨L, upd_same _ _ _, hoff, hrow, hvec, hsz, ?_⟩
      rw [if_neg (by rw [hnil]; simp)]
      exact ⟨c, d, t, by rw [hb]; exact alloc_new w _, hcap, hl'⟩
    · rename_i hne
      refine (h.obj i).keep hst (upd_ne _ _ hne) (fun Li hi hn hlv => ?_) (by simp)
      exact alloc_block _ _ _ ((h.obj i).blk_lt hi hn hlv)
  · intro i j Li Lj hij hio hLi hni hjl hLj hnj
    rw [hH'] at hio hjl
    by_cases h1 : i = id
    · subst h1
      rw [upd_same] at hLi; simp at hLi; subst hLi
      have h2 : j ≠ i := fun e => hij e.symm
      rw [if_neg h2] at hjl
      rw [upd_ne _ _ h2] at hLj
      have := (h.obj j).blk_lt hLj hnj hjl
      omega
    · rw [if_neg h1] at hio
      rw [upd_ne _ _ h1] at hLi
      by_cases h2 : j = id
      · subst h2
        rw [upd_same] at hLj; simp at hLj; subst hLj
        have := (h.obj i).blk_lt hLi hni (AObj.owned_live hio)
        omega
      · rw [if_neg h2] at hjl
        rw [upd_ne _ _ h2] at hLj
        exact h.sep i j Li Lj hij hio hLi hni hjl hLj hnj
  · intro i hi
    rw [upd_ne _ _ (by omega)]
    exact h.fresh i (by omega)

theorem zeroCells_len (z : Array Value) (n : Nat) : (Builtin.zeroCells z n).size = n * z.size := by simp [Builtin.zeroCells]

/-- an append for which there is no room -/
theorem app_grow {w : World} {ts : Array TypeId} {ty t0 t1 e e1 : Nat} {base : Option Addr} {len cap n : Nat} {cx cy : Value} {z : List Sc} {old new : List Value}
    (h0 : ts[0]? = some t0) (h1 : ts[1]? = some t1) (hd0 : dT P t0 = .sl e) (hd1 : dT P t1 = .sl e1) (hx : cx = .slice base len cap) (hsz : 0 < szT P e) (hby : 0 < byT P e) (hby2 : byT P e ≤ 1048576) (hz : zT P e = some z) (hzl : z.length = szT P e)
    (hlen : (Builtin.lenOf cy).run P w = .ok n w) (hcap : ¬ len + n ≤ cap) (hb : (len + n) * byT P e ≤ 1099511627776)
    (hold : (Builtin.firstCells (szT P e) len cx).run P w.drew = .ok old.toArray w.drew) (hnew : (Builtin.firstCells (szT P e) n cy).run P w.drew = .ok new.toArray w.drew) :
    ∃ (C : Nat) (rest : List Value), len + n ≤ C ∧ rest.length = (C - (len + n)) * szT P e ∧
      (Builtin.append_ ts ty #[cx, cy]).run P w = .ok (.slice (some ⟨w.heap.size, 0, none⟩) (len + n) C) (w.drew.alloc (.cells (old ++ new ++ rest).toArray e)) := by
  subst hx
  have hu0 := und_sl hd0
  have hu1 := und_sl hd1
  obtain ⟨i, hi, his⟩ := info_of hsz
  have hbi := by_of hi
  obtain ⟨zv, zc, h3, h4, h5⟩ := zero_rel (P := P) (ρ := fun _ => none) hz w.drew
  have hzc : zc.length = szT P e := by rw [← h5.length, hzl]
  have hneed : len + n ≤ (len + n) * byT P e := Nat.le_mul_of_pos_right _ hby
  have hmax : IntKind.i64.max = 9223372036854775807 := by decide
  have hc1 : ¬ ((((len + n : Nat) : Int) > IntKind.i64.max) ∧ (False ∨ i.bytes = 0)) := by rw [hmax]; omega
  have hc2 : ¬ (Builtin.nextslicecap (len + n) cap * i.bytes > 2 ^ 48) := by
    have a1 := nextcap_le (len + n) cap (by omega)
    rw [← hbi]
    have a2 : Builtin.nextslicecap (len + n) cap * byT P e ≤ (2 * (len + n) + 1000) * byT P e := Nat.mul_le_mul_right _ a1
    have a3 : (2 * (len + n) + 1000) * byT P e = 2 * ((len + n) * byT P e) + 1000 * byT P e := by rw [Nat.add_mul, Nat.mul_assoc]
    omega
  refine ⟨(len + n) + w.tape w.drawn (.appendCap (len + n) cap e) % (2 ^ 63 - (len + n)), (Builtin.zeroCells zc.toArray (w.tape w.drawn (.appendCap (len + n) cap e) % (2 ^ 63 - (len + n)))).toList, by omega, ?_, ?_⟩
  · simp [zeroCells_len, hzc]
  · have e0 : (#[Value.slice base len cap, cy] : Array Value)[0]? = some (.slice base len cap) := rfl
    have e1 : (#[Value.slice base len cap, cy] : Array Value)[1]? = some cy := rfl
    simp only [Builtin.append_, h0, h1, e0, e1, Sem.run_bind, run_underlying hu0, run_underlying hu1, Result.andThen_ok, run_sizeOf' hsz, Sem.run_pure, Bool.false_eq_true, if_false, hlen, hcap]
    have hti : ∀ w : World, (typeInfo e).run P w = .ok i w := fun w => by simp [typeInfo, hi]
    have hfo : (Question.appendCap (len + n) cap e).forced = false := rfl
    have hz2 : zc.length = zc.toArray.size := by simp
    simp only [hti, Result.andThen_ok, hc1, if_false, Sem.run_bind, hc2, run_choose, hfo, Bool.false_eq_true, run_askRoom, World.drew_eq, hold, Bool.not_false, if_true, hnew, h3, h4, newRow, run_newObj, Sem.run_pure, Question.cut]
    congr 2
    · rw [Nat.add_sub_cancel_left]
      congr 2
      apply Array.ext'; simp


/-- an append for which there is room -/
theorem app_room {w w' : World} {ts : Array TypeId} {ty t0 t1 e e1 : Nat} {a : Addr} {len cap n : Nat} {cy : Value} {new : List Value}
    (h0 : ts[0]? = some t0) (h1 : ts[1]? = some t1) (hd0 : dT P t0 = .sl e) (hd1 : dT P t1 = .sl e1) (hsz : 0 < szT P e)
    (hlen : (Builtin.lenOf cy).run P w = .ok n w) (hcap : len + n ≤ cap) (hnew : (Builtin.firstCells (szT P e) n cy).run P w = .ok new.toArray w)
    (hst : (storeCells (a.add (len * szT P e)) new).run P w = .ok () w') :
    (Builtin.append_ ts ty #[.slice (some a) len cap, cy]).run P w = .ok (.slice (some a) (len + n) cap) w' := by
  have hu0 := und_sl hd0
  have hu1 := und_sl hd1
  have e0 : (#[Value.slice (some a) len cap, cy] : Array Value)[0]? = some (.slice (some a) len cap) := rfl
  have e1 : (#[Value.slice (some a) len cap, cy] : Array Value)[1]? = some cy := rfl
  simp only [Builtin.append_, h0, h1, e0, e1, Sem.run_bind, run_underlying hu0, run_underlying hu1, Result.andThen_ok, run_sizeOf' hsz, Sem.run_pure, Bool.false_eq_true, if_false, hlen, hcap, if_true, Bool.not_false, hnew, hst]

theorem cell_alloc_lt {w : World} (o : Obj) {b j : Nat} (h : b < w.heap.size) : (w.alloc o).cell? ⟨b, j, none⟩ = w.cell? ⟨b, j, none⟩ := cell_of_block (alloc_block w o b h) _ _

theorem appA_run {ts : Array TypeId} {ty : Nat} {H H' : AH} {vs : List AV} {cs : List Value} {v : AV} {w : World} (h : appA P ts vs H = some (v, H')) (hv : L2 (VRel ρ) vs cs) (hH : HR ρ w H) :
    ∃ w' ρ' vc, Eff ρ w H w' ρ' H' ∧ (Builtin.append_ ts ty cs.toArray).run P w = .ok vc w' ∧ VRel ρ' v vc := by
  unfold appA at h
  split at h <;> try (simp at h; done)
  rename_i t0 t1 h0 h1
  split at h <;> try (simp at h; done)
  rename_i e e1 x y hd0 hd1
  split at h <;> try (simp at h; done)
  rename_i new n z hsrc hz
  split at h <;> try (simp at h; done)
  rename_i hc
  obtain ⟨hsz, hby, hby2, hzl, hone⟩ := hc
  obtain ⟨cx, cy, rfl, hx, hy⟩ := hv.two
  obtain ⟨nv, hnl, hnr, hlen, hnmax, hnew⟩ := src_run (P := P) hH hsrc hy
  have hnw := hnew w fun _ _ _ => rfl
  have hnwd := hnew w.drew fun _ _ _ => rfl
  have hneed : ∀ k, k ≤ k * byT P e := fun k => Nat.le_mul_of_pos_right _ hby
  split at h
  · rename_i id off ver len
    split at h <;> try (simp at h; done)
    rename_i sz os hob
    split at h <;> simp at h
    rename_i hc
    obtain ⟨rfl, rfl, rfl, hos, hb⟩ := hc
    obtain ⟨rfl, rfl⟩ := h
    obtain ⟨L, base, cap, g1, rfl, gn, g2, g3, g4, g5⟩ := (show SlRel ρ id 0 os.length len cx from hx)
    have hO := hH.obj id
    rw [hob] at hO
    obtain ⟨L', k1, k2, k3, k4, k5, k6⟩ := hO
    obtain rfl : L = L' := by simpa [g1] using k1
    have g6 := g5 k3.symm
    have hown : (hg H id).owned = true := by rw [hob]; rfl
    have hid := hg_lt (AObj.owned_live hown)
    have hnl2 := hnr.length
    have hk := hneed (len + n)
    have hrl : (os ++ new).length = os.length + new.length := by simp
    have hst : ∀ L' : Loc, L'.row = os.length + new.length → (new.length = 0 → L' = L) → Stab ρ (upd ρ id L') := by
      intro L' hr he i Li hi
      by_cases hii : i = id
      · subst hii
        refine ⟨L', upd_same _ _ _, ?_⟩
        obtain rfl : L = Li := by simpa [g1] using hi
        rcases Nat.eq_zero_or_pos new.length with hz | hz
        · exact .inl (he hz)
        · right; omega
      · exact ⟨Li, by rw [upd_ne _ _ hii, hi], .inl rfl⟩
    have hset : ∀ i, hg (H.set id (.vec (szT P e) (os ++ new))) i = if i = id then .vec (szT P e) (os ++ new) else hg H i := fun i => hg_set _ _ _ _ hid
    by_cases hroom : len + n ≤ cap
    · -- room
      by_cases hnil : L.nil = true
      · rw [if_pos hnil] at g6 k6
        obtain ⟨rfl, _, rfl, rfl⟩ := g6
        obtain ⟨rfl, _⟩ := k6
        have hn0 : n = 0 := by omega
        subst hn0
        have hnew0 : new = [] := List.eq_nil_of_length_eq_zero (by rw [hnl2, hnl]; simp)
        subst hnew0
        have hH0 : H.set id (.vec (szT P e) ([] ++ [])) = H := by
          apply List.ext_getElem? ; intro i
          rw [List.getElem?_set]
          split
          · subst_vars
            have : H[i]? = some (hg H i) := by unfold hg; rw [List.getD_eq_getElem?_getD]; simp [hid]
            rw [this, hob]; simp
          · rfl
        rw [hH0]
        refine ⟨w, ρ, .slice none 0 0, ⟨hH, Stab.refl ρ, fun _ _ a b => ⟨a, b⟩, Nat.le_refl _, fun _ _ _ h => h⟩, ?_, ?_⟩
        · have hu0 := und_sl hd0
          have hu1 := und_sl hd1
          have e0 : (#[Value.slice none 0 0, cy] : Array Value)[0]? = some (.slice none 0 0) := rfl
          have e2 : (#[Value.slice none 0 0, cy] : Array Value)[1]? = some cy := rfl
          simp only [Builtin.append_, h0, h1, e0, e2, Sem.run_bind, run_underlying hu0, run_underlying hu1, Result.andThen_ok, run_sizeOf' hsz, Sem.run_pure, Bool.false_eq_true, if_false, hlen, Nat.le_refl, if_true, Bool.not_false, hnw]
        · exact ⟨L, none, 0, g1, rfl, by simp, by omega, by omega, by simp, fun _ => by rw [if_pos hnil]; simp⟩
      · rw [if_neg hnil] at g6 k6
        have hnil' : L.nil = false := by simpa using hnil
        obtain ⟨a, rfl, g7, g8, _⟩ := g6
        obtain rfl := g7 (.inl rfl)
        have hcap := g8 rfl k4
        obtain ⟨c, d, t, k7, k8, k9⟩ := k6
        have hcl := k9.length
        have hcd : len * szT P e + nv.length ≤ (c ++ d).length := by
          rw [hnl, ← Nat.add_mul, ← k8, ← hcap]; exact Nat.mul_le_mul_right _ hroom
        obtain ⟨w', m1, m2⟩ := run_storeCells (P := P) t L.blk nv w (c ++ d) 0 (len * szT P e) k7 (one_all hnr hone) (by omega)
        have e3 : (c ++ d).take (len * szT P e + 0) ++ nv ++ (c ++ d).drop (len * szT P e + 0 + nv.length) = (c ++ nv) ++ d.drop nv.length := by
          have : len * szT P e = c.length := by omega
          rw [this, Nat.add_zero, List.take_append_of_le_length (Nat.le_refl _), List.take_length, List.drop_append]; simp
        rw [e3] at m2
        have hL' := hst { L with row := os.length + new.length } rfl (fun hz => by simp only [hz, Nat.add_zero, ← k3])
        refine ⟨w', upd ρ id { L with row := os.length + new.length }, _, ⟨⟨?_, ?_, ?_⟩, hL', ?_, by simp, ?_⟩, app_room (ty := ty) h0 h1 hd0 hd1 hsz hlen hroom hnw (by rw [Addr.add_none, k2]; simpa using m1), ?_⟩
        · intro i
          rw [hset]
          split
          · subst_vars
            refine ⟨_, upd_same _ _ _, k2, by simp, k4, k5, ?_⟩
            rw [if_neg hnil]
            refine ⟨c ++ nv, d.drop nv.length, t, m2.this, ?_, ?_⟩
            · show L.cap * szT P e = _
              rw [k8]; simp at hcd ⊢; omega
            · exact (k9.mono fun _ _ h => SRel.mono h hL').app (hnr.mono fun _ _ h => SRel.mono h hL')
          · rename_i hne
            refine (hH.obj i).keep hL' (upd_ne _ _ hne) (fun Li hi hn hlv => ?_) (by rw [m2.size]; omega)
            exact m2.other _ (fun e => hH.sep id i L Li (fun e => hne e.symm) hown g1 hnil' hlv hi hn e.symm)
        · intro i j Li Lj hij hio hLi hni hjl hLj hnj
          rw [hset] at hio hjl
          have tr : ∀ (k : Nat) (Lk : Loc), upd ρ id { L with row := os.length + new.length } k = some Lk → ∃ Lk', ρ k = some Lk' ∧ Lk'.blk = Lk.blk ∧ Lk'.nil = Lk.nil := by
            intro k Lk hk
            by_cases e : k = id
            · subst e; rw [upd_same] at hk; simp at hk; subst hk; exact ⟨L, g1, rfl, rfl⟩
            · rw [upd_ne _ _ e] at hk; exact ⟨Lk, hk, rfl, rfl⟩
          obtain ⟨Mi, a1, a2, a3⟩ := tr i Li hLi
          obtain ⟨Mj, b1, b2, b3⟩ := tr j Lj hLj
          rw [← a2, ← b2]
          have hio' : (hg H i).owned = true := by split at hio; subst_vars; exact hown; exact hio
          have hjl' : (hg H j).live = true := by split at hjl; subst_vars; exact AObj.owned_live hown; exact hjl
          exact hH.sep i j Mi Mj hij hio' a1 (by rw [a3, hni]) hjl' b1 (by rw [b3, hnj])
        · intro i hi
          simp at hi
          rw [upd_ne _ _ (by omega)]; exact hH.fresh i hi
        · intro w0 M hk hm
          refine ⟨hk.setB m2 (hm id L hown g1 hnil'), fun i Li hio hLi hni => ?_⟩
          rw [hset] at hio
          by_cases e : i = id
          · subst e; rw [upd_same] at hLi; simp at hLi; subst hLi; exact hm _ L hown g1 hnil'
          · rw [if_neg e] at hio; rw [upd_ne _ _ e] at hLi; exact hm _ _ hio hLi hni
        · intro i Li hio hLi
          have : i ≠ id := by rintro rfl; rw [hown] at hio; simp at hio
          rw [upd_ne _ _ this, hLi]
        · refine ⟨_, _, _, upd_same _ _ _, rfl, by simp, hroom, by omega, Nat.le_refl _, fun _ => ?_⟩
          rw [if_neg hnil]
          refine ⟨_, rfl, fun _ => rfl, fun _ _ => hcap, fun hp _ => ?_⟩
          show 0 < os.length + new.length
          rw [hos, hnl2, hnl, ← Nat.add_mul]; exact Nat.mul_pos hp hsz
    · -- no room
      obtain ⟨ov, o1, o2, o3⟩ : ∃ ov : List Value, ov.length = len * szT P e ∧ L2 (SRel ρ) os ov ∧ (Builtin.firstCells (szT P e) len (.slice base len cap)).run P w.drew = .ok ov.toArray w.drew := by
        by_cases hnil : L.nil = true
        · rw [if_pos hnil] at g6 k6
          obtain ⟨rfl, _, rfl, rfl⟩ := g6
          obtain ⟨rfl, _⟩ := k6
          exact ⟨[], by simp, .nil, by simp [Builtin.firstCells]⟩
        · rw [if_neg hnil] at g6
          obtain ⟨a, rfl, g7, g8, _⟩ := g6
          obtain rfl := g7 (.inl rfl)
          obtain ⟨vs, h8, h9, h10⟩ := cells_run (P := P) (off := 0) (n := len * szT P e) (hH.obj id) g1 (by rw [hob]; simp [AObj.cells, hos])
          rw [hob] at h9
          have e4 : ((AObj.vec (szT P e) os).cells.drop 0).take (len * szT P e) = os := by simp [AObj.cells, ← hos]
          rw [e4] at h9
          exact ⟨vs, h8, h9, by simp only [Builtin.firstCells]; exact h10 w.drew fun _ => rfl⟩
      obtain ⟨C, rest, c1, c2, c3⟩ := app_grow (ty := ty) h0 h1 hd0 hd1 rfl hsz hby hby2 hz hzl hlen hroom hb o3 hnwd
      have hnpos : 0 < n := by omega
      have hnewpos : 0 < new.length := by rw [hnl2, hnl]; exact Nat.mul_pos hnpos hsz
      have hL' := hst ⟨w.heap.size, 0, C, os.length + new.length, false, true⟩ rfl (fun hz => by omega)
      have hrel : L2 (SRel ρ) (os ++ new) (ov ++ nv) := o2.app hnr
      have hcap : C * szT P e = ((ov ++ nv) ++ rest).length := by
        simp only [List.length_append, o1, hnl, c2]
        rw [← Nat.add_mul, ← Nat.add_mul]; congr 1; omega
      have hr := HR.new hH.drew hrel e id (szT P e) ⟨w.heap.size, 0, C, os.length + new.length, false, true⟩ rfl rfl rfl (by simp) rfl hsz hcap hL' hset (by simp) (by simpa using hid)
      refine ⟨_, _, _, ⟨hr, hL', fun w0 M hk hm => ⟨hk.drew.alloc _ _, fun i Li hio hLi hni => ?_⟩, by simp, fun i Li hio hLi => ?_⟩, c3, ?_⟩
      · rw [hset] at hio
        by_cases e : i = id
        · subst e; rw [upd_same] at hLi; simp at hLi; subst hLi; exact .inr hk.size
        · rw [if_neg e] at hio; rw [upd_ne _ _ e] at hLi; exact hm _ _ hio hLi hni
      · have : i ≠ id := by rintro rfl; rw [hown] at hio; simp at hio
        rw [upd_ne _ _ this, hLi]
      · refine ⟨_, _, _, upd_same _ _ _, rfl, by simp, c1, by omega, Nat.le_refl _, fun _ => ?_⟩
        rw [if_neg (by simp)]
        exact ⟨_, rfl, fun _ => rfl, fun _ _ => rfl, fun _ _ => by show 0 < os.length + new.length; omega⟩
  · split at h <;> simp at h
    rename_i hc
    obtain ⟨hn0, hb⟩ := hc
    obtain ⟨rfl, rfl⟩ := h
    cases hx
    obtain ⟨C, rest, c1, c2, c3⟩ := app_grow (ty := ty) (base := none) (len := 0) (cap := 0) (n := n) (old := []) h0 h1 hd0 hd1 rfl hsz hby hby2 hz hzl hlen (by omega) (by simpa using hb) (by simp [Builtin.firstCells]) hnwd
    have hst : Stab ρ (upd ρ H.length ⟨w.heap.size, 0, C, new.length, false, true⟩) := by
      intro i Li hi
      have : i ≠ H.length := by rintro rfl; rw [hH.fresh _ (Nat.le_refl _)] at hi; simp at hi
      exact ⟨Li, by rw [upd_ne _ _ this, hi], .inl rfl⟩
    have hnl2 := hnr.length
    have hcap : C * szT P e = (nv ++ rest).length := by
      simp only [List.length_append, hnl, c2]
      rw [← Nat.add_mul]; congr 1; omega
    have hr := HR.new hH.drew hnr e H.length (szT P e) ⟨w.heap.size, 0, C, new.length, false, true⟩ rfl rfl rfl rfl rfl hsz hcap hst (hg_append H _) (by simp) (by simp)
    rw [Nat.zero_add, List.nil_append] at c3
    have hk := hneed n
    refine ⟨_, _, _, ⟨hr, hst, fun w0 M hk hm => ⟨hk.drew.alloc _ _, fun i Li hio hLi hni => ?_⟩, by simp, fun i Li hio hLi => ?_⟩, c3, ?_⟩
    · rw [hg_append] at hio
      by_cases e : i = H.length
      · subst e; rw [upd_same] at hLi; simp at hLi; subst hLi; exact .inr hk.size
      · rw [if_neg e] at hio; rw [upd_ne _ _ e] at hLi; exact hm _ _ hio hLi hni
    · have : i ≠ H.length := by rintro rfl; rw [hH.fresh _ (Nat.le_refl _)] at hLi; simp at hLi
      rw [upd_ne _ _ this, hLi]
    · refine ⟨_, _, _, upd_same _ _ _, rfl, by simp, by omega, by omega, Nat.le_refl _, fun _ => ?_⟩
      rw [if_neg (by simp)]
      refine ⟨_, rfl, fun _ => rfl, fun _ _ => rfl, fun hp _ => ?_⟩
      show 0 < new.length
      rw [hnl2, hnl]; exact Nat.mul_pos hp hsz
  · simp at h

end Go.Am

/- The runs: 'arun', and calls of functions whose contracts a table holds. -/
namespace Go.Am

/-- a contract: a function of values alone -/
inductive Ent where
  | pu (s : List AV → Option AV)
  | fp (s : List AV → AH → Option (AV × AH))
  | fq (s : List AV → AH → Option AV)
  | lo (n : Nat)
abbrev Tab := List (Nat × Ent)
def look : Tab → Nat → Option Ent
  | [], _ => none
  | (g, e) :: r, f => if g = f then some e else look r f

/-- how many objects were there at the start -/
def lo : Tab → Nat
  | [] => 0
  | (_, .lo n) :: _ => n
  | _ :: r => lo r

def callA (tab : Tab) (f : Nat) (args : List AV) (H : AH) : Option (AV × AH) :=
  match look tab f with
  | some (.pu s) => (s args).map fun v => (v, H)
  | some (.fp s) => s args H
  | some (.fq s) => (s args H).map fun v => (v, H)
  | _ => none

def capV (c : Nat × Nat × Nat) : AV := .c (.p c.1 c.2.1 c.2.2)

def astep (P : Program) (tab : Tab) (op : Op) (vs : List AV) (H : AH) : Option (AV × AH) :=
  match op, vs with
  | .call ⟨.value _, _, _⟩, .c (.f fn cs) :: args => callA tab fn (args ++ cs.map capV) H
  | .call ⟨.value _, _, _⟩, _ => none
  | .call ⟨.builtin .append, _, ts⟩, vs => appA P ts vs H
  | op, vs =>
    match qop P op vs ((touch op vs).map (hg H)) with
    | some v => some (v, H)
    | none => eop P op vs H

/-- what an operation does to the objects, as far as orders go -/
inductive Tc where
  | no
  | ld (id off n : Nat)
  | st (id off n : Nat)
  | mk
  | rd
  | bar
  | cl (H H' : AH)
def slotOf : Operand → Option Nat
  | .tmp t => some t
  | _ => none
/-- operations that change nothing, and look at no object, whatever they are given -/
def qk : Op → Bool
  | .move _ | .assign _ | .pick _ _ _ | .build _ _ | .nilCheck _ | .binOp _ _ _ _ _ | .unOp _ _ _ | .convert _ _ _ | .makeFunc _ _ _ | .fieldAddr _ _ _ | .field _ _ _
  | .indexAddr _ _ _ | .index _ _ _ | .slice _ _ _ _ _ | .extract _ _ => true
  | .call ⟨.builtin .len, _, _⟩ | .call ⟨.builtin .min, _, _⟩ | .call ⟨.builtin .max, _, _⟩ => true
  | _ => false
def tcL (n : Nat) : List AV → Tc
  | [.c (.p id off _)] => .ld id off n
  | _ => .bar
def tcS (n : Nat) : List AV → Tc
  | [.c (.p id off _), _] => .st id off n
  | _ => .bar
def tcC (tab : Tab) : List AV → Tc
  | .c (.f fn _) :: _ =>
    match look tab fn with
    | some (.pu _) => .no
    | some (.fq _) => .rd
    | _ => .bar
  | _ => .bar
def tcof (P : Program) (tab : Tab) (op : Op) (vs : List AV) : Tc :=
  match op with
  | .load t _ => tcL (szT P t) vs
  | .store t _ _ => tcS (szT P t) vs
  | .alloc _ | .box _ _ | .buildSlice _ _ _ | .makeSlice _ _ _ => .mk
  | .call ⟨.value _, _, _⟩ => tcC tab vs
  | op => if qk op then .no else .bar
/-- a call, or what else changes objects, told by what it changed -/
def tcx (t : Tc) (H H' : AH) : Tc :=
  match t with
  | .bar | .cl _ _ => .cl H H'
  | t => t
/-- two operations that are not to be exchanged -/
def clash : Tc → Tc → Prop
  | .no, _ => False
  | _, .no => False
  | .bar, _ => True
  | _, .bar => True
  | .cl A B, .ld i _ _ => ¬ (hg B i = hg A i ∧ (hg A i).live = true)
  | .ld i _ _, .cl A B => ¬ (hg B i = hg A i ∧ (hg A i).live = true)
  | .cl _ _, _ => True
  | _, .cl _ _ => True
  | .mk, .rd => True
  | .rd, .mk => True
  | .st _ _ _, .rd => True
  | .rd, .st _ _ _ => True
  | .st i a n, .st j b m => i = j ∧ a < b + m ∧ b < a + n
  | .st i a n, .ld j b m => i = j ∧ a < b + m ∧ b < a + n
  | .ld i a n, .st j b m => i = j ∧ a < b + m ∧ b < a + n
  | _, _ => False
/-- the operations ahead of one, by the edges that hold in every order -/
def ups (full : Array Oper) (k : Nat) : List Nat :=
  match full[k]? with
  | some o => (o.after.toList.filter fun e => Region.binds .any e).map (·.on)
  | none => []
def ancs (full : Array Oper) : Nat → List Nat → List Nat
  | 0, l => l
  | k + 1, l => ancs full k (if l.contains k then ups full k ++ l else l)
def tied (full : Array Oper) (i j : Nat) : Bool := (ancs full (i + 1) [i]).contains j
def okT (full : Array Oper) (i : Nat) (t : Tc) : List (Nat × Tc) → Prop
  | [] => True
  | (j, u) :: r => (clash t u → tied full i j = true) ∧ okT full i t r
def psh (i : Nat) (t : Tc) (l : List (Nat × Tc)) : List (Nat × Tc) :=
  match t with
  | .no => l
  | t => (i, t) :: l

inductive It where
  | c (c : Code)
  | ops (full : Array Oper) (l : List Oper)
  | dr (full : Array Oper) (l : List Oper) (i : Nat) (log : List (Nat × Tc))
  | blk (id : Nat)
  | back (I : Fr → AH → Prop)
  | scp
  | scj (l : Nat) (J : Fr → AH → Prop)

def cwt : Code → Nat
  | .region _ ops _ => ops.size + 3
  | .seq a b => cwt a + cwt b + 1
  | .cond _ a b => cwt a + cwt b + 1
  | .block _ c => cwt c + 2
  | .loop c => cwt c + 2
  | .scope c => cwt c + 3
  | _ => 1
def It.wt : It → Nat
  | .c x => cwt x
  | .ops _ l => l.length + 1
  | .dr _ l _ _ => l.length + 1
  | _ => 1
def kwt (k : List It) : Nat := (k.map It.wt).sum
def popB (id : Nat) : List It → Option (List It)
  | [] => none
  | .blk i :: k => if i = id then some k else popB id k
  | _ :: k => popB id k
/-- where a jump leads -/
def popJ (l : Nat) : List It → Option (Fr → AH → Prop)
  | [] => none
  | .scp :: _ => none
  | .scj l' J :: _ => if l' = l then some J else none
  | _ :: k => popJ l k
theorem popB_wt {id : Nat} {k k' : List It} (h : popB id k = some k') : kwt k' < kwt k + 1 := by
  induction k with
  | nil => simp [popB] at h
  | cons x k ih =>
    cases x <;> simp only [popB] at h
    case blk i =>
      split at h
      · simp at h; subst h; simp [kwt, It.wt]; omega
      · have := ih h; simp [kwt, It.wt] at this ⊢; omega
    all_goals (have := ih h; simp [kwt] at this ⊢; omega)

/-- what a guard's slot says: a bool, or nothing -/
def gval (full : Array Oper) (fr : Fr) (j : Nat) : Option (Option Bool) :=
  match (full[j]?).bind (·.dst) with
  | none => some none
  | some d => match get fr d with
    | .c (.b q) => some (some q)
    | .c .und => some none
    | _ => none
def putA (d : Option Nat) (v : AV) (fr : Fr) : Fr :=
  match d with
  | some d => (d, v) :: fr
  | none => fr

/-- one state is covered by another one -/
def Wk (n : Nat) (fr : Fr) (H : AH) (S : Fr × AH) : Prop :=
  ∀ (ρ : Ro) (w : World) (tm : Nat → Value), (∀ s, VRel ρ (get fr s) (tm s)) → HR ρ w H →
    ∃ ρ', (∀ s, VRel ρ' (get S.1 s) (tm s)) ∧ HR ρ' w S.2 ∧ (∀ i L, (hg S.2 i).owned = true → ρ' i = some L → L.nil = false → ∃ j, (hg H j).owned = true ∧ ρ j = some L) ∧ (∀ i, i < n → ρ' i = ρ i)

set_option linter.unusedVariables false in
def arun (P : Program) (tab : Tab) (k : List It) (fr : Fr) (H : AH) (Q : Fr → AH → Prop) : Prop :=
  match k with
  | [] => Q fr H
  | .blk _ :: k => arun P tab k fr H Q
  | .back I :: _ => I fr H
  | .scp :: k => arun P tab k fr H Q
  | .scj _ _ :: k => arun P tab k fr H Q
  | .ops _ [] :: k => arun P tab k fr H Q
  | .ops full (o :: os) :: k =>
    match o.guard with
    | none =>
      match astep P tab o.op ((opnds o.op).map (ev fr)) H with
      | some (v, H') => arun P tab (.ops full os :: k) (putA o.dst v fr) H' Q
      | none => False
    | some (j, want) =>
      match gval full fr j with
      | some (some q) =>
        if q = want then
          match astep P tab o.op ((opnds o.op).map (ev fr)) H with
          | some (v, H') => arun P tab (.ops full os :: k) (putA o.dst v fr) H' Q
          | none => False
        else arun P tab (.ops full os :: k) (putA o.dst (.c .und) fr) H Q
      | some none => arun P tab (.ops full os :: k) (putA o.dst (.c .und) fr) H Q
      | none => False
  | .dr _ [] _ _ :: k => arun P tab k fr H Q
  | .dr full (o :: os) i log :: k =>
    match o.guard with
    | none =>
      match astep P tab o.op ((opnds o.op).map (ev fr)) H with
      | some (v, H') => okT full i (tcx (tcof P tab o.op ((opnds o.op).map (ev fr))) H H') log ∧ arun P tab (.dr full os (i + 1) (psh i (tcx (tcof P tab o.op ((opnds o.op).map (ev fr))) H H') log) :: k) (putA o.dst v fr) H' Q
      | none => False
    | some (j, want) =>
      match gval full fr j with
      | some (some q) =>
        if q = want then
          match astep P tab o.op ((opnds o.op).map (ev fr)) H with
          | some (v, H') => okT full i (tcx (tcof P tab o.op ((opnds o.op).map (ev fr))) H H') log ∧ arun P tab (.dr full os (i + 1) (psh i (tcx (tcof P tab o.op ((opnds o.op).map (ev fr))) H H') log) :: k) (putA o.dst v fr) H' Q
          | none => False
        else arun P tab (.dr full os (i + 1) log :: k) (putA o.dst (.c .und) fr) H Q
      | some none => arun P tab (.dr full os (i + 1) log :: k) (putA o.dst (.c .und) fr) H Q
      | none => False
  | .c .skip :: k => arun P tab k fr H Q
  | .c (.region _ ops false) :: k => arun P tab (.ops ops ops.toList :: k) fr H Q
  | .c (.region _ ops true) :: k => arun P tab (.dr ops ops.toList 0 [] :: k) fr H Q
  | .c (.seq a b) :: k => arun P tab (.c a :: .c b :: k) fr H Q
  | .c (.cond x a b) :: k =>
    match ev fr x with
    | .c (.b q) => if q = true then arun P tab (.c a :: k) fr H Q else arun P tab (.c b :: k) fr H Q
    | .c .qq => arun P tab (.c a :: k) fr H Q ∧ arun P tab (.c b :: k) fr H Q
    | _ => False
  | .c (.block id c) :: k => arun P tab (.c c :: .blk id :: k) fr H Q
  | .c (.loop c) :: k => ∃ (ι : Type) (F : ι → Fr × AH) (μ : ι → Nat) (i0 : ι), Wk (lo tab) fr H (F i0) ∧
      ∀ i, arun P tab (.c c :: .back (fun fr H => ∃ j, μ j < μ i ∧ Wk (lo tab) fr H (F j)) :: k) (F i).1 (F i).2 Q
  | .c (.exit id) :: k =>
    match h : popB id k with
    | some k' => arun P tab k' fr H Q
    | none => False
  | .c (.label _) :: k => arun P tab k fr H Q
  | .c (.scope c) :: k => arun P tab (.c c :: .scp :: k) fr H Q ∨ ∃ (l : Nat) (rest : Code) (J : Fr → AH → Prop), findLabel c l = some rest ∧ arun P tab (.c c :: .scj l J :: k) fr H Q ∧
      ∃ _ : cwt rest ≤ cwt c, ∀ fr H, J fr H → arun P tab (.c rest :: .scp :: k) fr H Q
  | .c (.goto l) :: k =>
    match popJ l k with
    | some J => J fr H
    | none => False
  | .c .ret :: _ => Q fr H
  | .c _ :: _ => False
termination_by kwt k
decreasing_by
  all_goals simp_wf
  all_goals first
    | (simp [kwt, It.wt, cwt]; done)
    | (simp [kwt, It.wt, cwt]; omega)
    | (have hh := popB_wt ‹_›; simp [kwt, It.wt, cwt] at hh ⊢; omega)

end Go.Am

/- What 'arun' says holds of the model. -/
namespace Go.Am
variable {P : Program} {tab : Tab}

section eqs
variable {k : List It} {fr : Fr} {H : AH} {Q : Fr → AH → Prop}
theorem arun_nil : arun P tab [] fr H Q = Q fr H := by rw [arun]
theorem arun_blk {id : Nat} : arun P tab (.blk id :: k) fr H Q = arun P tab k fr H Q := by rw [arun]
theorem arun_back {I : Fr → AH → Prop} : arun P tab (.back I :: k) fr H Q = I fr H := by rw [arun]
theorem arun_ops_nil {full : Array Oper} : arun P tab (.ops full [] :: k) fr H Q = arun P tab k fr H Q := by rw [arun]
theorem arun_skip : arun P tab (.c .skip :: k) fr H Q = arun P tab k fr H Q := by rw [arun]
theorem arun_region {id : Nat} {ops : Array Oper} : arun P tab (.c (.region id ops false) :: k) fr H Q = arun P tab (.ops ops ops.toList :: k) fr H Q := by rw [arun]
theorem arun_regiond {id : Nat} {ops : Array Oper} : arun P tab (.c (.region id ops true) :: k) fr H Q = arun P tab (.dr ops ops.toList 0 [] :: k) fr H Q := by rw [arun]
theorem arun_dr_nil {full : Array Oper} {i : Nat} {log : List (Nat × Tc)} : arun P tab (.dr full [] i log :: k) fr H Q = arun P tab k fr H Q := by rw [arun]
theorem arun_dr {full : Array Oper} {o : Oper} {os : List Oper} {i : Nat} {log : List (Nat × Tc)} : arun P tab (.dr full (o :: os) i log :: k) fr H Q =
    match o.guard with
    | none =>
      match astep P tab o.op ((opnds o.op).map (ev fr)) H with
      | some (v, H') => okT full i (tcx (tcof P tab o.op ((opnds o.op).map (ev fr))) H H') log ∧ arun P tab (.dr full os (i + 1) (psh i (tcx (tcof P tab o.op ((opnds o.op).map (ev fr))) H H') log) :: k) (putA o.dst v fr) H' Q
      | none => False
    | some (j, want) =>
      match gval full fr j with
      | some (some q) =>
        if q = want then
          match astep P tab o.op ((opnds o.op).map (ev fr)) H with
          | some (v, H') => okT full i (tcx (tcof P tab o.op ((opnds o.op).map (ev fr))) H H') log ∧ arun P tab (.dr full os (i + 1) (psh i (tcx (tcof P tab o.op ((opnds o.op).map (ev fr))) H H') log) :: k) (putA o.dst v fr) H' Q
          | none => False
        else arun P tab (.dr full os (i + 1) log :: k) (putA o.dst (.c .und) fr) H Q
      | some none => arun P tab (.dr full os (i + 1) log :: k) (putA o.dst (.c .und) fr) H Q
      | none => False := by rw [arun] <;> rfl
theorem arun_scp : arun P tab (.scp :: k) fr H Q = arun P tab k fr H Q := by rw [arun]
theorem arun_scj {l : Nat} {J : Fr → AH → Prop} : arun P tab (.scj l J :: k) fr H Q = arun P tab k fr H Q := by rw [arun]
theorem arun_label {l : Nat} : arun P tab (.c (.label l) :: k) fr H Q = arun P tab k fr H Q := by rw [arun]
theorem arun_scope {c : Code} : arun P tab (.c (.scope c) :: k) fr H Q = (arun P tab (.c c :: .scp :: k) fr H Q ∨ ∃ (l : Nat) (rest : Code) (J : Fr → AH → Prop), findLabel c l = some rest ∧ arun P tab (.c c :: .scj l J :: k) fr H Q ∧
      ∃ _ : cwt rest ≤ cwt c, ∀ fr H, J fr H → arun P tab (.c rest :: .scp :: k) fr H Q) := by rw [arun]
theorem arun_goto {l : Nat} : arun P tab (.c (.goto l) :: k) fr H Q = match popJ l k with | some J => J fr H | none => False := by first | (rw [arun]; done) | (rw [arun]; split <;> simp_all)
theorem arun_seq {a b : Code} : arun P tab (.c (.seq a b) :: k) fr H Q = arun P tab (.c a :: .c b :: k) fr H Q := by rw [arun]
theorem arun_block {id : Nat} {c : Code} : arun P tab (.c (.block id c) :: k) fr H Q = arun P tab (.c c :: .blk id :: k) fr H Q := by rw [arun]
theorem arun_ret : arun P tab (.c .ret :: k) fr H Q = Q fr H := by rw [arun]
theorem arun_exit {id : Nat} : arun P tab (.c (.exit id) :: k) fr H Q = match popB id k with | some k' => arun P tab k' fr H Q | none => False := by
  rw [arun]; split <;> simp_all
theorem arun_cond {x : Operand} {a b : Code} : arun P tab (.c (.cond x a b) :: k) fr H Q = match ev fr x with | .c (.b q) => if q = true then arun P tab (.c a :: k) fr H Q else arun P tab (.c b :: k) fr H Q | .c .qq => arun P tab (.c a :: k) fr H Q ∧ arun P tab (.c b :: k) fr H Q | _ => False := by rw [arun] <;> rfl
theorem arun_loop {c : Code} : arun P tab (.c (.loop c) :: k) fr H Q = ∃ (ι : Type) (F : ι → Fr × AH) (μ : ι → Nat) (i0 : ι), Wk (lo tab) fr H (F i0) ∧
      ∀ i, arun P tab (.c c :: .back (fun fr H => ∃ j, μ j < μ i ∧ Wk (lo tab) fr H (F j)) :: k) (F i).1 (F i).2 Q := by rw [arun]
theorem arun_op {full : Array Oper} {o : Oper} {os : List Oper} : arun P tab (.ops full (o :: os) :: k) fr H Q =
    match o.guard with
    | none =>
      match astep P tab o.op ((opnds o.op).map (ev fr)) H with
      | some (v, H') => arun P tab (.ops full os :: k) (putA o.dst v fr) H' Q
      | none => False
    | some (j, want) =>
      match gval full fr j with
      | some (some q) =>
        if q = want then
          match astep P tab o.op ((opnds o.op).map (ev fr)) H with
          | some (v, H') => arun P tab (.ops full os :: k) (putA o.dst v fr) H' Q
          | none => False
        else arun P tab (.ops full os :: k) (putA o.dst (.c .und) fr) H Q
      | some none => arun P tab (.ops full os :: k) (putA o.dst (.c .und) fr) H Q
      | none => False := by rw [arun] <;> rfl
end eqs

/-! ### the table's contracts -/
def ρ0 : Ro := fun _ => none
structure PuOk (P : Program) (f : Nat) (s : List AV → Option AV) : Prop where
  enters : ∀ args w, (callFunc f args).run P w = .ok (.enter f args) w
  pure : ∀ args v, s args = some v → ∀ (ρ : Ro) (w : World) (cs : List Value), L2 (VRel ρ) args cs →
    Calls P f cs.toArray w fun e w' => ∃ vc, e = .returned vc ∧ (∀ ρ' : Ro, VRel ρ' v vc) ∧ Keep w (fun _ => False) w'
/-- the blocks that a heap owns -/
def Owns (ρ : Ro) (H : AH) (b : Nat) : Prop := ∃ i L, (hg H i).owned = true ∧ ρ i = some L ∧ L.nil = false ∧ L.blk = b
/-- a contract of a function that is given addresses: from any heap on -/
structure FpOk (P : Program) (f : Nat) (s : List AV → AH → Option (AV × AH)) : Prop where
  enters : ∀ args w, (callFunc f args).run P w = .ok (.enter f args) w
  len : ∀ args H v H', s args H = some (v, H') → H.length ≤ H'.length
  runs : ∀ args H v H', s args H = some (v, H') → ∀ (ρ : Ro) (w : World) (cs : List Value), L2 (VRel ρ) args cs → HR ρ w H →
    Calls P f cs.toArray w fun e w' => ∃ vc ρ', e = .returned vc ∧ VRel ρ' v vc ∧ HR ρ' w' H' ∧ Stab ρ ρ' ∧ Keep w (Owns ρ H) w' ∧ (∀ b, Owns ρ' H' b → Owns ρ H b ∨ w.heap.size ≤ b)
def EntOk (P : Program) (f : Nat) : Ent → Prop
  | .pu s => PuOk P f s
  | .fp s => FpOk P f s
  | .fq s => FpOk P f fun args H => (s args H).map fun v => (v, H)
  | .lo _ => True
def TabOk (P : Program) (tab : Tab) : Prop := ∀ f e, look tab f = some e → EntOk P f e

theorem TabOk.nil : TabOk P [] := fun f e h => by simp [look] at h
theorem TabOk.cons {f : Nat} {e : Ent} (h : EntOk P f e) (ht : TabOk P tab) : TabOk P ((f, e) :: tab) := by
  intro g x hx
  simp only [look] at hx
  split at hx
  · simp at hx; subst_vars; exact h
  · exact ht g x hx

/-! ### states -/
structure Fx where
  m : Nat → Prop
  n : Nat
  r : Ro
structure St (N : Nat) (w0 : World) (M : Fx) (ρ : Ro) (fr : Fr) (H : AH) (a : Act) (w : World) : Prop where
  fr : ∀ s, VRel ρ (get fr s) (a.tmps.getD s undef)
  sz : a.tmps.size = N
  df : a.defers = []
  hr : HR ρ w H
  kp : Keep w0 M.m w
  ow : ∀ i L, (hg H i).owned = true → ρ i = some L → L.nil = false → (M.m L.blk ∨ w0.heap.size ≤ L.blk)
  st : ∀ i, i < M.n → ∀ L, M.r i = some L → ∃ L', ρ i = some L' ∧ (L' = L ∨ L.row < L'.row)

variable {N : Nat} {w0 : World} {M : Fx} {ρ : Ro} {fr : Fr} {H : AH} {a : Act} {w : World}

def dstOk (N : Nat) : Option Nat → Bool
  | none => true
  | some d => decide (d < N)

theorem St.put (h : St N w0 M ρ fr H a w) {d : Option Nat} {v : AV} {vc : Value} (hd : dstOk N d = true) (hv : VRel ρ v vc) : St N w0 M ρ (putA d v fr) H (a.put d vc) w := by
  cases d with
  | none => exact h
  | some d =>
    simp [dstOk] at hd
    refine ⟨fun s => ?_, by simp [Act.put, h.sz], h.df, h.hr, h.kp, h.ow, h.st⟩
    simp only [putA, get, Act.put]
    split
    · rename_i e
      rw [← e]
      have : (a.tmps.setIfInBounds d vc).getD d undef = vc := by
        simp [Array.getD_eq_getD_getElem?, h.sz, hd]
      rw [this]; exact hv
    · rename_i hne
      have : (a.tmps.setIfInBounds d vc).getD s undef = a.tmps.getD s undef := by
        simp [Array.getD_eq_getD_getElem?, Array.getElem?_setIfInBounds_ne hne]
      rw [this]; exact h.fr s

theorem st_trans {n : Nat} {ρi ρ ρ' : Ro} (h : ∀ i, i < n → ∀ L, ρi i = some L → ∃ L', ρ i = some L' ∧ (L' = L ∨ L.row < L'.row)) (hs : Stab ρ ρ') : ∀ i, i < n → ∀ L, ρi i = some L → ∃ L', ρ' i = some L' ∧ (L' = L ∨ L.row < L'.row) := by
  intro i hi L hL
  obtain ⟨L1, h1, h2⟩ := h i hi L hL
  obtain ⟨L2, h3, h4⟩ := hs i L1 h1
  refine ⟨L2, h3, ?_⟩
  rcases h2 with rfl | h2 <;> rcases h4 with rfl | h4
  · exact .inl rfl
  · exact .inr h4
  · exact .inr h2
  · exact .inr (by omega)
/-- behind a call -/
theorem St.call (h : St N w0 M ρ fr H a w) {w' : World} {ρ' : Ro} {H' : AH} (hr : HR ρ' w' H') (hs : Stab ρ ρ') (hk : Keep w (Owns ρ H) w') (ho : ∀ b, Owns ρ' H' b → Owns ρ H b ∨ w.heap.size ≤ b) : St N w0 M ρ' fr H' a w' := by
  have hown : ∀ b, Owns ρ H b → M.m b ∨ w0.heap.size ≤ b := by
    rintro b ⟨i, L, h1, h2, h3, rfl⟩; exact h.ow i L h1 h2 h3
  refine ⟨fun s => (h.fr s).mono hs, h.sz, h.df, hr, ⟨hk.os.trans h.kp.os, hk.tape.trans h.kp.tape, hk.output.trans h.kp.output, Nat.le_trans h.kp.size hk.size, fun b hb hm => ?_, fun b c t f hf hm => ?_⟩, fun i L h1 h2 h3 => ?_, st_trans h.st hs⟩
  · rw [hk.old b (Nat.lt_of_lt_of_le hb h.kp.size) (fun h' => ?_)]
    · exact h.kp.old b hb hm
    · rcases hown b h' with h' | h'
      · exact hm h'
      · omega
  · by_cases h' : w.heap.size ≤ b ∨ Owns ρ H b
    · exact hk.free b c t f hf h'
    · have h1 : b < w.heap.size := by
        rcases Nat.lt_or_ge b w.heap.size with h1 | h1
        · exact h1
        · exact absurd (.inl h1) h'
      rw [hk.old b h1 (fun h2 => h' (.inr h2))] at hf
      exact h.kp.free b c t f hf hm
  · rcases ho L.blk ⟨i, L, h1, h2, h3, rfl⟩ with h' | h'
    · exact hown _ h'
    · exact .inr (Nat.le_trans h.kp.size h')

theorem St.eff (h : St N w0 M ρ fr H a w) {w' : World} {ρ' : Ro} {H' : AH} (he : Eff ρ w H w' ρ' H') : St N w0 M ρ' fr H' a w' := by
  obtain ⟨h1, h2⟩ := he.kp w0 M.m h.kp h.ow
  exact ⟨fun s => (h.fr s).mono he.st, h.sz, h.df, he.hr, h1, h2, st_trans h.st he.st⟩

theorem ops_rel (h : St N w0 M ρ fr H a w) (l : List Operand) : L2 (VRel ρ) (l.map (ev fr)) (l.map a.eval) := by
  induction l with
  | nil => exact .nil
  | cons x l ih => exact .cons (ev_rel h.fr x) ih

theorem HR.keep {w w' : World} (h : HR ρ w H) (hk : Keep w (fun _ => False) w') : HR ρ w' H := by
  refine ⟨fun i => ?_, h.sep, h.fresh⟩
  refine (h.obj i).keep (Stab.refl ρ) rfl (fun L hi hn hl => ?_) hk.size
  exact hk.old _ ((h.obj i).blk_lt hi hn hl) (fun f => f)
theorem Keep.trans {m : Nat → Prop} {w1 w2 : World} (h : Keep w0 m w1) (h' : Keep w1 (fun _ => False) w2) : Keep w0 m w2 := by
  refine ⟨h'.os.trans h.os, h'.tape.trans h.tape, h'.output.trans h.output, Nat.le_trans h.size h'.size, fun b hb hm => ?_, fun b c t f hf hm => ?_⟩
  · rw [h'.old b (Nat.lt_of_lt_of_le hb h.size) (fun f => f)]; exact h.old b hb hm
  · rcases Nat.lt_or_ge b w1.heap.size with hlt | hge
    · rw [h'.old b hlt (fun f => f)] at hf; exact h.free b c t f hf hm
    · exact h'.free b c t f hf (.inl hge)
theorem Eff.quiet {w' : World} (h : HR ρ w H) (hk : Keep w (fun _ => False) w') : Eff ρ w H w' ρ H :=
  ⟨h.keep hk, Stab.refl ρ, fun _ _ h1 h2 => ⟨h1.trans hk, h2⟩, Nat.le_refl _, fun _ _ _ h => h⟩

theorem caps_vals {cs : List (Nat × Nat × Nat)} {cv : List Value} (h : L2 (fun (c : Nat × Nat × Nat) v => PRel ρ c.1 c.2.1 c.2.2 v) cs cv) : L2 (VRel ρ) (cs.map capV) cv := by
  induction h with
  | nil => exact .nil
  | cons h _ ih => exact .cons h ih

/-- an operation's step -/
theorem op_wp {o : Oper} {v : AV} {H' : AH} {K : Act → World → Prop} {Q : Exit → Act → World → Prop} (ht : TabOk P tab) (hs : St N w0 M ρ fr H a w) (hd : dstOk N o.dst = true)
    (h : astep P tab o.op ((opnds o.op).map (ev fr)) H = some (v, H')) (hK : ∀ ρ' a' w', St N w0 M ρ' (putA o.dst v fr) H' a' w' → K a' w') : o.wp P a w K Q := by
  have hv := ops_rel hs (opnds o.op)
  have come : Come P ρ H w (execOp a.eval o) v H' → o.wp P a w K Q := by
    rintro ⟨w', ρ', he, ⟨vc, h1, h2⟩ | ⟨h1, h2⟩⟩
    · simp only [Oper.wp, h1, Oper.upon]
      exact hK _ _ _ ((hs.eff he).put hd h2)
    · simp only [Oper.wp, h1, Oper.upon]
      subst h2
      exact hK _ _ _ ((hs.eff he).put hd rfl)
  unfold astep at h
  split at h
  · -- a call
    rename_i op _ f as ts fn cs args hop hvs
    rw [hop] at hvs hv
    simp only [opnds, List.map_cons, List.cons.injEq] at hvs hv
    obtain ⟨hf, hargs⟩ := hvs
    have hfr := ev_rel hs.fr f
    rw [hf] at hfr
    obtain ⟨cv, hcv, hcr⟩ := hfr
    cases hv with
    | cons _ hv =>
      unfold callA at h
      split at h
      · rename_i s hl
        simp only [Option.map_eq_some_iff, Prod.mk.injEq] at h
        obtain ⟨v', h1, rfl, rfl⟩ := h
        obtain ⟨hen, hpu⟩ := ht fn _ hl
        have hrel : L2 (VRel ρ) (args ++ cs.map capV) (as.toList.map a.eval ++ cv) := by
          rw [← hargs]; exact hv.app (caps_vals hcr)
        have hcall := hpu _ _ h1 ρ w _ hrel
        have hrun : (execOp a.eval o).run P w = .ok (.enter fn (as.toList.map a.eval ++ cv).toArray) w := by
          have e1 : #[] ++ as.map a.eval ++ cv.toArray = (as.toList.map a.eval ++ cv).toArray := by apply Array.ext'; simp
          simp only [execOp, hop, resolve, hcv, Deferred.ofValue, Sem.run_bind, Sem.run_pure, Result.andThen_ok, invoke]
          rw [e1]; exact hen _ _
        simp only [Oper.wp, hrun, Oper.upon]
        refine hcall.mono ?_
        rintro e w' ⟨vc, rfl, h3, h4⟩
        exact hK _ _ _ ((hs.eff (Eff.quiet hs.hr h4)).put hd (h3 ρ))
      · rename_i s hl
        obtain ⟨hen, _, hfp⟩ := ht fn _ hl
        have hrel : L2 (VRel ρ) (args ++ cs.map capV) (as.toList.map a.eval ++ cv) := by
          rw [← hargs]; exact hv.app (caps_vals hcr)
        have hcall := hfp _ _ _ _ h ρ w _ hrel hs.hr
        have hrun : (execOp a.eval o).run P w = .ok (.enter fn (as.toList.map a.eval ++ cv).toArray) w := by
          have e1 : #[] ++ as.map a.eval ++ cv.toArray = (as.toList.map a.eval ++ cv).toArray := by apply Array.ext'; simp
          simp only [execOp, hop, resolve, hcv, Deferred.ofValue, Sem.run_bind, Sem.run_pure, Result.andThen_ok, invoke]
          rw [e1]; exact hen _ _
        simp only [Oper.wp, hrun, Oper.upon]
        refine hcall.mono ?_
        rintro e w' ⟨vc, ρ', rfl, h3, h4, h5, h6, h7⟩
        exact hK _ _ _ ((hs.call h4 h5 h6 h7).put hd h3)
      · rename_i s hl
        obtain ⟨hen, _, hfp⟩ := ht fn _ hl
        have hrel : L2 (VRel ρ) (args ++ cs.map capV) (as.toList.map a.eval ++ cv) := by
          rw [← hargs]; exact hv.app (caps_vals hcr)
        have hcall := hfp _ _ _ _ h ρ w _ hrel hs.hr
        have hrun : (execOp a.eval o).run P w = .ok (.enter fn (as.toList.map a.eval ++ cv).toArray) w := by
          have e1 : #[] ++ as.map a.eval ++ cv.toArray = (as.toList.map a.eval ++ cv).toArray := by apply Array.ext'; simp
          simp only [execOp, hop, resolve, hcv, Deferred.ofValue, Sem.run_bind, Sem.run_pure, Result.andThen_ok, invoke]
          rw [e1]; exact hen _ _
        simp only [Oper.wp, hrun, Oper.upon]
        refine hcall.mono ?_
        rintro e w' ⟨vc, ρ', rfl, h3, h4, h5, h6, h7⟩
        exact hK _ _ _ ((hs.call h4 h5 h6 h7).put hd h3)
      · simp at h
  · simp at h
  · -- append
    rename_i op _ as ts hop
    rw [hop] at hv h
    obtain ⟨w', ρ', vc, h1, h2, h3⟩ := appA_run (ty := o.type) h hv hs.hr
    refine come ⟨w', ρ', h1, .inl ⟨vc, ?_, h3⟩⟩
    have has : (List.map a.eval (opnds (Op.call ⟨.builtin .append, as, ts⟩))).toArray = as.map a.eval := by apply Array.ext'; simp [opnds]
    rw [has] at h2
    simp only [execOp, hop, resolve, Sem.run_bind, Sem.run_pure, Result.andThen_ok, invoke, builtin, h2]
  · split at h
    · rename_i v' hq
      simp at h
      obtain ⟨rfl, rfl⟩ := h
      obtain ⟨vc, h1, h2⟩ := qop_run (o := o) hq hv (fun i => hs.hr.obj i)
      exact come ⟨w, ρ, ⟨hs.hr, Stab.refl ρ, fun _ _ a b => ⟨a, b⟩, Nat.le_refl _, fun _ _ _ h => h⟩, .inl ⟨vc, h1, h2⟩⟩
    · exact come (eop_run (o := o) h hv hs.hr)

end Go.Am

/- Soundness of 'arun'. -/
namespace Go.Am
variable {P : Program} {tab : Tab} {N : Nat} {w0 : World} {M : Fx}

/-- a region's operations write slots that are there -/
def opsOk (N : Nat) (l : List Oper) : Bool := l.all fun o => dstOk N o.dst
def okC (N : Nat) (drawn : Array Oper → Bool) : Code → Bool
  | .region _ ops d => opsOk N ops.toList && (!d || drawn ops)
  | .seq a b => okC N drawn a && okC N drawn b
  | .cond _ a b => okC N drawn a && okC N drawn b
  | .block _ c => okC N drawn c
  | .loop c => okC N drawn c
  | .scope c => okC N drawn c
  | _ => true
def okI (N : Nat) (drawn : Array Oper → Bool) : It → Bool
  | .c x => okC N drawn x
  | .ops _ l => opsOk N l
  | .dr _ _ _ _ => false
  | _ => true
def okK (N : Nat) (drawn : Array Oper → Bool) (k : List It) : Bool := k.all (okI N drawn)

/-- a state that is one of some abstract ones -/
def SI (N : Nat) (w0 : World) (M : Fx) (I : Fr → AH → Prop) (a : Act) (w : World) : Prop := ∃ ρ fr H, St N w0 M ρ fr H a w ∧ I fr H

def Kp (P : Program) (N : Nat) (w0 : World) (M : Fx) (Q : Fr → AH → Prop) : List It → Exit → Act → World → Prop
  | [] => fun e a w => match e with
    | .normal | .ret => SI N w0 M Q a w
    | _ => False
  | .c x :: k => Exit.then (x.wp P (Kp P N w0 M Q k)) (Kp P N w0 M Q k)
  | .ops full l :: k => Exit.then (wpList P full (Kp P N w0 M Q k) l) (Kp P N w0 M Q k)
  | .dr _ _ _ _ :: k => Exit.then (fun _ _ => False) (Kp P N w0 M Q k)
  | .blk id :: k => Exit.inBlock id (Kp P N w0 M Q k)
  | .scp :: k => Exit.noGoto (Kp P N w0 M Q k)
  | .scj l J :: k => Exit.jump l (SI N w0 M J) (Kp P N w0 M Q k)
  | .back I :: k => Exit.then (SI N w0 M I) (Kp P N w0 M Q k)

theorem Kp_ret {Q : Fr → AH → Prop} {a : Act} {w : World} (h : SI N w0 M Q a w) : ∀ k, Kp P N w0 M Q k .ret a w := by
  intro k
  induction k with
  | nil => exact h
  | cons x k ih => cases x <;> exact ih
theorem Kp_goto {Q : Fr → AH → Prop} {a : Act} {w : World} {l : Nat} {J : Fr → AH → Prop} (h : SI N w0 M J a w) : ∀ k : List It, popJ l k = some J → Kp P N w0 M Q k (.goto l) a w := by
  intro k
  induction k with
  | nil => intro h; simp [popJ] at h
  | cons x k ih =>
    intro hp
    cases x with
    | scp => simp [popJ] at hp
    | scj l' J' =>
      simp only [popJ] at hp
      split at hp
      · rename_i e
        simp only [Option.some.injEq] at hp
        subst hp; subst e
        exact ⟨rfl, h⟩
      · simp at hp
    | blk i => exact ih hp
    | c x => exact ih hp
    | ops f l => exact ih hp
    | dr f l i g => exact ih hp
    | back I => exact ih hp
theorem okC_label {N : Nat} {drawn : Array Oper → Bool} : ∀ {c : Code} {l : Nat} {rest : Code}, okC N drawn c = true → findLabel c l = some rest → okC N drawn rest = true := by
  intro c
  induction c with
  | seq a b iha ihb =>
    intro l rest h hf
    simp only [okC, Bool.and_eq_true] at h
    simp only [findLabel] at hf
    split at hf
    · rename_i r hr
      simp only [Option.some.injEq] at hf
      subst hf
      simp only [okC, Bool.and_eq_true]
      exact ⟨iha h.1 hr, h.2⟩
    · exact ihb h.2 hf
  | label l' =>
    intro l rest h hf
    simp only [findLabel] at hf
    split at hf
    · simp only [Option.some.injEq] at hf; subst hf; rfl
    · simp at hf
  | _ => intro l rest h hf; simp [findLabel] at hf
theorem Kp_exit {Q : Fr → AH → Prop} {a : Act} {w : World} {id : Nat} : ∀ (k k' : List It), popB id k = some k' → Kp P N w0 M Q k' .normal a w → Kp P N w0 M Q k (.exit id) a w := by
  intro k
  induction k with
  | nil => intro k' h; simp [popB] at h
  | cons x k ih =>
    intro k' h hk
    cases x with
    | blk i =>
      simp only [popB] at h
      simp only [Kp, Exit.inBlock]
      split at h
      · simp at h; subst h; subst_vars; rw [if_pos rfl]; exact hk
      · rename_i hne; rw [if_neg (fun e => hne e.symm)]; exact ih _ h hk
    | c x => exact ih _ h hk
    | ops f l => exact ih _ h hk
    | dr f l i g => exact ih _ h hk
    | back I => exact ih _ h hk
    | scp => exact ih _ h hk
    | scj l J => exact ih _ h hk

theorem wp_loopI {c : Code} {Q : Exit → Act → World → Prop} {a : Act} {w : World} (I : Nat → Act → World → Prop) (n : Nat) (h₀ : I n a w)
    (round : ∀ n a w, I n a w → c.wp P (Exit.then (fun a' w' => ∃ m, m < n ∧ I m a' w') Q) a w) : (Code.loop c).wp P Q a w := by
  intro b k cs
  have key : ∀ n a w, I n a w → ∃ e a' w', Q e a' w' ∧ Arrives P (lone (b.at a (.code c :: .inLoop c :: k)) cs w) b k cs e a' w' := by
    intro n
    induction n using Nat.strongRecOn with
    | _ n ih =>
      intro a w hI
      obtain ⟨e, a₁, w₁, hq, harr⟩ := round n a w hI b (.inLoop c :: k) cs
      cases e with
      | normal =>
        obtain ⟨m, hm, hI₁⟩ := hq
        obtain ⟨e₂, a₂, w₂, hq₂, harr₂⟩ := ih m hm a₁ w₁ hI₁
        exact ⟨e₂, a₂, w₂, hq₂, .of_steps (Steps.trans harr (.one step_inLoop)) harr₂⟩
      | exit id => exact ⟨_, a₁, w₁, hq, .pass (x := .inLoop c) rfl (fun _ _ => .inl (by simp)) harr⟩
      | goto l => exact ⟨_, a₁, w₁, hq, .pass (x := .inLoop c) rfl (fun _ _ => .inl (by simp)) harr⟩
      | ret => exact ⟨_, a₁, w₁, hq, .pass (x := .inLoop c) rfl (fun _ _ => .inl (by simp)) harr⟩
      | panic ch => exact ⟨_, a₁, w₁, hq, .pass (x := .inLoop c) rfl (fun _ _ => .inl (by simp)) harr⟩
      | outgrown => exact ⟨_, a₁, w₁, hq, .pass (x := .inLoop c) rfl (fun _ _ => .inl (by simp)) harr⟩
  obtain ⟨e, a', w', hq, harr⟩ := key n a w h₀
  exact ⟨e, a', w', hq, .of_steps (.one step_loop) harr⟩

theorem St.wk {ρ : Ro} {fr : Fr} {H : AH} {a : Act} {w : World} (h : St N w0 M ρ fr H a w) {S : Fr × AH} {n : Nat} (hn : M.n ≤ n) (hw : Wk n fr H S) : ∃ ρ', St N w0 M ρ' S.1 S.2 a w := by
  obtain ⟨ρ', h1, h2, h3, h4⟩ := hw ρ w (fun s => a.tmps.getD s undef) h.fr h.hr
  refine ⟨ρ', h1, h.sz, h.df, h2, h.kp, fun i L hi hL hn => ?_, fun i hi L hL => ?_⟩
  · obtain ⟨j, hj, hL'⟩ := h3 i L hi hL hn
    exact h.ow j L hj hL' hn
  · rw [h4 i (Nat.lt_of_lt_of_le hi hn)]; exact h.st i hi L hL

/-- a region that draws its order comes to what the text's order comes to -/
def DrawOk (P : Program) (tab : Tab) (N : Nat) (ops : Array Oper) : Prop :=
  ∀ (id : Nat) (w0 : World) (M : Fx) (ρ : Ro) (fr : Fr) (H : AH) (a : Act) (w : World) (k : List It) (Q : Fr → AH → Prop) (R : Exit → Act → World → Prop),
    St N w0 M ρ fr H a w → arun P tab (.dr ops ops.toList 0 [] :: k) fr H Q →
    (∀ fr' H', arun P tab k fr' H' Q → ∀ ρ' a' w', St N w0 M ρ' fr' H' a' w' → R .normal a' w') → (Code.region id ops true).wp P R a w

theorem gval_spec {full : Array Oper} {ρ : Ro} {fr : Fr} {a : Act} {j : Nat} {r : Option Bool} (h : gval full fr j = some r) (hf : ∀ s, VRel ρ (get fr s) (a.tmps.getD s undef)) :
    yielded full a.tmps j = r := by
  unfold gval at h
  unfold yielded
  cases hd : (full[j]?).bind (·.dst) with
  | none => rw [hd] at h; simp at h; subst h; rfl
  | some d =>
    rw [hd] at h
    simp only [Option.bind_some]
    have hv := hf d
    simp only at h
    split at h
    · rename_i q hg
      simp at h; subst h
      rw [hg] at hv
      have hv' : a.tmps.getD d undef = .bool q := hv
      have hlt : d < a.tmps.size := by
        rcases Nat.lt_or_ge d a.tmps.size with h | h
        · exact h
        · simp [Array.getD_eq_getD_getElem?, Array.getElem?_eq_none h, undef] at hv'
      have : a.tmps[d]? = some (.bool q) := by
        rw [Array.getElem?_eq_getElem hlt]; rw [Array.getD_eq_getD_getElem?, Array.getElem?_eq_getElem hlt] at hv'; simpa using hv'
      rw [this]
    · rename_i hg
      simp at h; subst h
      rw [hg] at hv
      have hv' : a.tmps.getD d undef = undef := hv
      rcases Nat.lt_or_ge d a.tmps.size with hlt | hge
      · have : a.tmps[d]? = some undef := by
          rw [Array.getElem?_eq_getElem hlt]; rw [Array.getD_eq_getD_getElem?, Array.getElem?_eq_getElem hlt] at hv'; simpa using hv'
        rw [this]; rfl
      · rw [Array.getElem?_eq_none hge]
    · simp at h

/-- the operations of a region, in the text's order -/
theorem ops_sound (ht : TabOk P tab) {full : Array Oper} {k : List It} {Q : Fr → AH → Prop} {R : Exit → Act → World → Prop}
    (hK : ∀ fr' H', arun P tab k fr' H' Q → ∀ ρ' a' w', St N w0 M ρ' fr' H' a' w' → R .normal a' w') :
    ∀ (l : List Oper), opsOk N l = true → ∀ ρ fr H a w, arun P tab (.ops full l :: k) fr H Q → St N w0 M ρ fr H a w → wpList P full R l a w := by
  intro l
  induction l with
  | nil => intro _ ρ fr H a w h hs; rw [arun_ops_nil] at h; exact hK _ _ h _ _ _ hs
  | cons o l ih =>
    intro ho ρ fr H a w h hs
    simp only [opsOk, List.all_cons, Bool.and_eq_true] at ho
    have ih' := ih ho.2
    have step : ∀ v H', astep P tab o.op ((opnds o.op).map (ev fr)) H = some (v, H') → arun P tab (.ops full l :: k) (putA o.dst v fr) H' Q → o.wp P a w (wpList P full R l) R :=
      fun v H' h1 h2 => op_wp ht hs ho.1 h1 fun ρ' a' w' hs' => ih' _ _ _ _ _ h2 hs'
    have skip : arun P tab (.ops full l :: k) (putA o.dst (.c .und) fr) H Q → wpList P full R l (a.put o.dst undef) w := fun h2 => ih' _ _ _ _ _ h2 (hs.put ho.1 rfl)
    rw [arun_op] at h
    unfold wpList
    split at h
    · rename_i hg
      have hw : Region.wanted o (yielded full a.tmps) = true := by simp [Region.wanted, hg]
      rw [if_pos hw]
      split at h
      · rename_i v H' h1; exact .inl (step _ _ h1 h)
      · exact h.elim
    · rename_i j want hg
      split at h
      · rename_i q hq
        have hy := gval_spec hq hs.fr
        have hw : Region.wanted o (yielded full a.tmps) = (q == want) := by simp [Region.wanted, hg, hy]
        split at h
        · rename_i e
          rw [if_pos (by rw [hw]; simp [e])]
          split at h
          · rename_i v H' h1; exact .inl (step _ _ h1 h)
          · exact h.elim
        · rename_i e
          rw [if_neg (by rw [hw]; simp [e])]; exact skip h
      · rename_i hq
        have hy := gval_spec hq hs.fr
        have hw : Region.wanted o (yielded full a.tmps) = false := by simp [Region.wanted, hg, hy]
        rw [if_neg (by rw [hw]; simp)]; exact skip h
      · exact h.elim

theorem okK_cons {drawn : Array Oper → Bool} {x : It} {k : List It} (h : okI N drawn x = true) (hk : okK N drawn k = true) : okK N drawn (x :: k) = true := by
  simp only [okK, List.all_cons, Bool.and_eq_true]; exact ⟨h, hk⟩

theorem sound (hlo : M.n ≤ lo tab) (ht : TabOk P tab) (drawn : Array Oper → Bool) (hdr : ∀ ops, drawn ops = true → opsOk N ops.toList = true → DrawOk P tab N ops) {Q : Fr → AH → Prop} :
    ∀ (n : Nat) (k : List It), kwt k ≤ n → okK N drawn k = true → ∀ fr H, arun P tab k fr H Q → ∀ ρ a w, St N w0 M ρ fr H a w → Kp P N w0 M Q k .normal a w := by
  intro n
  induction n with
  | zero =>
    intro k hk hok fr H h ρ a w hs
    cases k with
    | nil => rw [arun_nil] at h; exact ⟨ρ, fr, H, hs, h⟩
    | cons x k => exfalso; cases x <;> simp [kwt, It.wt] at hk; rename_i c; cases c <;> simp [cwt] at hk
  | succ n ih =>
    intro k hk hok fr H h ρ a w hs
    cases k with
    | nil => rw [arun_nil] at h; exact ⟨ρ, fr, H, hs, h⟩
    | cons x k =>
      simp only [okK, List.all_cons, Bool.and_eq_true] at hok
      obtain ⟨hx, hok⟩ := hok
      cases x with
      | blk id =>
        rw [arun_blk] at h
        exact ih k (by simp [kwt, It.wt] at hk ⊢; omega) hok fr H h ρ a w hs
      | back I => rw [arun_back] at h; exact ⟨ρ, fr, H, hs, h⟩
      | scp => rw [arun_scp] at h; exact ih k (by simp [kwt, It.wt] at hk ⊢; omega) hok fr H h ρ a w hs
      | scj l J => rw [arun_scj] at h; exact ih k (by simp [kwt, It.wt] at hk ⊢; omega) hok fr H h ρ a w hs
      | dr f l i g => simp [okI] at hx
      | ops full l =>
        exact ops_sound ht (fun fr' H' h' ρ' a' w' hs' => ih k (by simp [kwt, It.wt] at hk ⊢; omega) hok fr' H' h' ρ' a' w' hs') l hx ρ fr H a w h hs
      | c x =>
        have hkp : ∀ fr' H', arun P tab k fr' H' Q → ∀ ρ' a' w', St N w0 M ρ' fr' H' a' w' → Kp P N w0 M Q k .normal a' w' :=
          fun fr' H' h' ρ' a' w' hs' => ih k (by
            have : 0 < cwt x := by cases x <;> simp [cwt]
            simp [kwt, It.wt] at hk ⊢; omega) hok fr' H' h' ρ' a' w' hs'
        show x.wp P (Kp P N w0 M Q k) a w
        cases x with
        | skip => rw [arun_skip] at h; exact wp_skip (hkp _ _ h _ _ _ hs)
        | region id ops d =>
          simp only [okI, okC, Bool.and_eq_true] at hx
          cases d with
          | false => rw [arun_region] at h; exact wp_region_list (ops_sound ht hkp ops.toList hx.1 ρ fr H a w h hs)
          | true => rw [arun_regiond] at h; exact hdr ops (by simpa using hx.2) hx.1 id w0 M ρ fr H a w k Q _ hs h hkp
        | seq x y =>
          rw [arun_seq] at h
          simp only [okI, okC, Bool.and_eq_true] at hx
          refine wp_seq ?_
          exact ih (.c x :: .c y :: k) (by simp [kwt, It.wt, cwt] at hk ⊢; omega) (okK_cons hx.1 (okK_cons hx.2 hok)) fr H h ρ a w hs
        | cond x y z =>
          rw [arun_cond] at h
          simp only [okI, okC, Bool.and_eq_true] at hx
          split at h
          · rename_i q hq
            have he := ev_rel hs.fr x
            rw [hq] at he
            have he' : a.eval x = .bool q := he
            split at h
            · rename_i e; subst e
              refine wp_cond_true he' ?_
              exact ih (.c y :: k) (by simp [kwt, It.wt, cwt] at hk ⊢; omega) (okK_cons hx.1 hok) fr H h ρ a w hs
            · rename_i e
              refine wp_cond_false (by rw [he']; simpa using e) ?_
              exact ih (.c z :: k) (by simp [kwt, It.wt, cwt] at hk ⊢; omega) (okK_cons hx.2 hok) fr H h ρ a w hs
          · rename_i hq
            have he := ev_rel hs.fr x
            rw [hq] at he
            obtain ⟨q, he'⟩ : ∃ q, a.eval x = .bool q := he
            cases q
            · refine wp_cond_false he' ?_
              exact ih (.c z :: k) (by simp [kwt, It.wt, cwt] at hk ⊢; omega) (okK_cons hx.2 hok) fr H h.2 ρ a w hs
            · refine wp_cond_true he' ?_
              exact ih (.c y :: k) (by simp [kwt, It.wt, cwt] at hk ⊢; omega) (okK_cons hx.1 hok) fr H h.1 ρ a w hs
          · exact h.elim
        | block id y =>
          rw [arun_block] at h
          simp only [okI, okC] at hx
          refine wp_block ?_
          exact ih (.c y :: .blk id :: k) (by simp [kwt, It.wt, cwt] at hk ⊢; omega) (okK_cons hx (okK_cons rfl hok)) fr H h ρ a w hs
        | loop y =>
          rw [arun_loop] at h
          simp only [okI, okC] at hx
          obtain ⟨ι, F, μ, i0, h0, hr⟩ := h
          obtain ⟨ρ1, hs1⟩ := hs.wk hlo h0
          refine wp_loopI (fun n a w => ∃ i ρ, μ i = n ∧ St N w0 M ρ (F i).1 (F i).2 a w) (μ i0) ⟨i0, ρ1, rfl, hs1⟩ ?_
          rintro n' a' w' ⟨i, ρ', rfl, hs'⟩
          have := ih (.c y :: .back (fun fr H => ∃ j, μ j < μ i ∧ Wk (lo tab) fr H (F j)) :: k) (by simp [kwt, It.wt, cwt] at hk ⊢; omega) (okK_cons hx (okK_cons rfl hok)) _ _ (hr i) ρ' a' w' hs'
          refine wp_mono (show y.wp P (Kp P N w0 M Q (.back _ :: k)) a' w' from this) ?_
          intro e a2 w2 hq
          cases e with
          | normal =>
            obtain ⟨ρ2, fr2, H2, hs2, j, hj, hwk⟩ := hq
            obtain ⟨ρ3, hs3⟩ := hs2.wk hlo hwk
            exact ⟨μ j, hj, j, ρ3, rfl, hs3⟩
          | _ => exact hq
        | exit id =>
          rw [arun_exit] at h
          split at h
          · rename_i k' hp
            refine wp_exit (Kp_exit k k' hp ?_)
            have hk' : okK N drawn k' = true := by
              have : ∀ (k k' : List It), popB id k = some k' → (k.all (okI N drawn)) = true → okK N drawn k' = true := by
                intro k
                induction k with
                | nil => intro k' h; simp [popB] at h
                | cons x k ihk =>
                  intro k' h hok
                  simp only [List.all_cons, Bool.and_eq_true] at hok
                  cases x with
                  | blk i =>
                    simp only [popB] at h
                    split at h
                    · simp at h; subst h; exact hok.2
                    · exact ihk _ h hok.2
                  | _ => exact ihk _ h hok.2
              exact this k k' hp hok
            have := popB_wt hp
            exact ih k' (by simp [kwt, It.wt, cwt] at hk this ⊢; omega) hk' fr H h ρ a w hs
          · exact h.elim
        | label l => rw [arun_label] at h; exact wp_label (hkp _ _ h _ _ _ hs)
        | goto l =>
          rw [arun_goto] at h
          split at h
          · rename_i J hp
            exact wp_goto (Kp_goto ⟨ρ, fr, H, hs, h⟩ k hp)
          · exact h.elim
        | scope y =>
          rw [arun_scope] at h
          simp only [okI, okC] at hx
          rcases h with h | ⟨l, rest, J, hf, h1, hle, h2⟩
          · refine wp_scope_straight ?_
            exact ih (.c y :: .scp :: k) (by simp [kwt, It.wt, cwt] at hk ⊢; omega) (okK_cons hx (okK_cons rfl hok)) fr H h ρ a w hs
          · have hxr := okC_label hx hf
            refine wp_scope_jumps l (SI N w0 M J) (fun _ _ => 0) hf (ih (.c y :: .scj l J :: k) (by simp [kwt, It.wt, cwt] at hk ⊢; omega) (okK_cons hx (okK_cons rfl hok)) fr H h1 ρ a w hs) ?_
            rintro a' w' ⟨ρ', fr', H', hs', hj⟩
            have := ih (.c rest :: .scp :: k) (by simp [kwt, It.wt, cwt] at hk ⊢; omega) (okK_cons hxr (okK_cons rfl hok)) fr' H' (h2 _ _ hj) ρ' a' w' hs'
            refine wp_mono (show rest.wp P (Kp P N w0 M Q (.scp :: k)) a' w' from this) ?_
            intro e a2 w2 hq
            cases e with
            | goto l' => exact hq.elim
            | _ => exact hq
        | ret => rw [arun_ret] at h; exact wp_ret (Kp_ret ⟨ρ, fr, H, hs, h⟩ k)
        | _ => rw [arun] at h <;> first | exact h.elim | simp

end Go.Am

/- Contracts out of runs. -/
namespace Go.Am
variable {P : Program} {tab : Tab}

def Sc.pf : Sc → Bool
  | .p _ _ _ | .sl _ _ _ _ => false
  | .f _ cs => cs.isEmpty
  | _ => true
/-- a value without addresses -/
def AV.pf : AV → Bool
  | .c s => s.pf
  | .g l => l.all Sc.pf
  | .t l => l.all fun x => match x with | .c s => s.pf | .g l => l.all Sc.pf | .t _ => false

theorem SRel.pf {ρ ρ' : Ro} {s : Sc} {v : Value} (h : SRel ρ s v) (hp : s.pf = true) : SRel ρ' s v := by
  cases s <;> simp [Sc.pf] at hp <;> try exact h
  subst hp
  obtain ⟨cv, h1, h2⟩ := h
  cases h2
  exact ⟨[], h1, .nil⟩
theorem L2.pf {ρ ρ' : Ro} {l : List Sc} {c : List Value} (h : L2 (SRel ρ) l c) (hp : l.all Sc.pf = true) : L2 (SRel ρ') l c := by
  induction h with
  | nil => exact .nil
  | cons h _ ih => simp only [List.all_cons, Bool.and_eq_true] at hp; exact .cons (h.pf hp.1) (ih hp.2)
theorem VRel.pf {ρ ρ' : Ro} {x : AV} {v : Value} (h : VRel ρ x v) (hp : x.pf = true) : VRel ρ' x v := by
  cases x with
  | c s => exact SRel.pf h hp
  | g l => obtain ⟨cs, h1, h2⟩ := h; exact ⟨cs, h1, h2.pf hp⟩
  | t l =>
    obtain ⟨vs, h1, h2⟩ := h
    refine ⟨vs, h1, ?_⟩
    simp only [AV.pf] at hp
    clear h1
    induction h2 with
    | nil => exact .nil
    | @cons a b l m h _ ih =>
      simp only [List.all_cons, Bool.and_eq_true] at hp
      refine .cons ?_ (ih hp.2)
      cases a with
      | c s => exact SRel.pf h hp.1
      | g l => obtain ⟨cs, h1, h2⟩ := h; exact ⟨cs, h1, h2.pf hp.1⟩
      | t l => exact h.elim

def frA : Nat → List AV → Fr
  | _, [] => []
  | n, v :: r => (n, v) :: frA (n + 1) r
theorem get_frA {ρ : Ro} : ∀ (args : List AV) (cs : List Value), L2 (VRel ρ) args cs → ∀ n s, VRel ρ (get (frA n args) s) (if n ≤ s then cs.getD (s - n) undef else undef) := by
  intro args cs h
  induction h with
  | nil => intro n s; trivial
  | @cons x c args cs h _ ih =>
    intro n s
    simp only [frA, get]
    split
    · subst_vars; simpa using h
    · rename_i hne
      have := ih (n + 1) s
      by_cases hle : n ≤ s
      · rw [if_pos hle]
        rw [if_pos (by omega)] at this
        obtain ⟨d, hd⟩ : ∃ d, s - n = d + 1 := ⟨s - n - 1, by omega⟩
        rw [hd, List.getD_cons_succ, show d = s - (n + 1) by omega]; exact this
      · rw [if_neg hle]
        rw [if_neg (by omega)] at this; exact this

/-- what a pointer leads to -/
def ldA (P : Program) (t : Nat) (H : AH) (x : AV) : Option AV :=
  match x with
  | .c (.p id off ver) => if ver = (hg H id).row ∧ off + szT P t ≤ (hg H id).cells.length ∧ 0 < szT P t ∧ (dT P t).is ∧ ((dT P t).agg = false → szT P t = 1) then some (rd (dT P t).agg (hg H id).cells off (szT P t)) else none
  | _ => none
def res1 (P : Program) (fr : Fr) (H : AH) : ResultVar → Option AV
  | .tmp t => some (get fr t)
  | .cell a t => ldA P t H (get fr a)
def AV.flat : AV → Bool
  | .t _ => false
  | _ => true
def resL (P : Program) (fr : Fr) (H : AH) : List ResultVar → Option (List AV)
  | [] => some []
  | r :: rs =>
    match res1 P fr H r, resL P fr H rs with
    | some v, some l => if v.flat = true then some (v :: l) else none
    | _, _ => none
def resA (P : Program) (fr : Fr) (H : AH) (rs : List ResultVar) : Option AV :=
  match rs with
  | [r] => res1 P fr H r
  | rs => (resL P fr H rs).map .t

theorem ldA_run {ρ : Ro} {w : World} {H : AH} {t : Nat} {x v : AV} {cx : Value} (h : ldA P t H x = some v) (hx : VRel ρ x cx) (hO : ∀ i, ORel ρ w i (hg H i)) :
    ∃ ad vc, cx = .pointer (some ad) ∧ (loadVar t ad).run P w = .ok vc w ∧ VRel ρ v vc := by
  unfold ldA at h
  split at h
  · rename_i id off ver
    split at h <;> simp at h
    rename_i hc
    subst h
    obtain ⟨L, ad, h2, h3, h4, h5⟩ := (show PRel ρ id off ver _ from hx)
    have hlive : (hg H id).live = true := by
      cases hh : hg H id with
      | dead => rw [hh] at hc; simp [AObj.cells] at hc; omega
      | _ => rfl
    have hrow := (hO id).row h2 hlive
    obtain ⟨_, _, rfl⟩ := h5 (by rw [hrow]; exact hc.1)
    obtain ⟨vc, h6, h7⟩ := load_run (hO id) h2 hc.2.1 hc.2.2.1 hc.2.2.2.1 hc.2.2.2.2
    exact ⟨_, vc, h3, h6, h7⟩
  · simp at h

/-- the model's reading of a result -/
def resS (tmps : Array Value) (r : ResultVar) : Sem Value :=
  match r with
  | .tmp t => pure (tmps.getD t undef)
  | .cell a t => do loadVar t (← asAddr (tmps.getD a undef))
theorem results_eq (fn : Func) (tmps : Array Value) : results fn tmps = (do let vs ← List.toArray <$> fn.results.toList.mapM (resS tmps); pure (if h : vs.size = 1 then vs[0] else .tuple vs)) := by
  unfold results
  rw [Array.mapM_eq_mapM_toList]
  rfl

theorem res1_run {ρ : Ro} {w : World} {H : AH} {fr : Fr} {tmps : Array Value} {r : ResultVar} {v : AV} (h : res1 P fr H r = some v) (hf : ∀ s, VRel ρ (get fr s) (tmps.getD s undef)) (hO : ∀ i, ORel ρ w i (hg H i)) :
    ∃ vc, (resS tmps r).run P w = .ok vc w ∧ VRel ρ v vc := by
  cases r with
  | tmp t => simp [res1] at h; subst h; exact ⟨_, rfl, hf t⟩
  | cell a t =>
    obtain ⟨ad, vc, h1, h2, h3⟩ := ldA_run (P := P) (show ldA P t H (get fr a) = some v from h) (hf a) hO
    exact ⟨vc, by simp [resS, h1, asAddr, h2], h3⟩

theorem resA_run {ρ : Ro} {w : World} {H : AH} {fr : Fr} {tmps : Array Value} {fn : Func} {v : AV} (h : resA P fr H fn.results.toList = some v) (hf : ∀ s, VRel ρ (get fr s) (tmps.getD s undef)) (hO : ∀ i, ORel ρ w i (hg H i)) :
    ∃ vc, (results fn tmps).run P w = .ok vc w ∧ VRel ρ v vc := by
  have key : ∀ (rs : List ResultVar) (l : List AV), resL P fr H rs = some l → ∃ vs : List Value, (rs.mapM (resS tmps)).run P w = .ok vs w ∧ L2 (V1 ρ) l vs ∧ vs.length = rs.length := by
    intro rs
    induction rs with
    | nil => intro l h; simp [resL] at h; subst h; exact ⟨[], by simp, .nil, rfl⟩
    | cons r rs ih =>
      intro l h
      simp only [resL] at h
      split at h
      · rename_i v' l' h1 h2
        split at h <;> simp at h
        rename_i hfl
        subst h
        obtain ⟨vc, h3, h4⟩ := res1_run (P := P) h1 hf hO
        obtain ⟨vs, h5, h6, h7⟩ := ih _ h2
        refine ⟨vc :: vs, ?_, .cons ?_ h6, by simp [h7]⟩
        · simp only [List.mapM_cons, Sem.run_bind, h3, Result.andThen_ok, h5, Sem.run_pure]
        · cases v' <;> first | exact h4 | simp [AV.flat] at hfl
      · simp at h
  rw [results_eq]
  unfold resA at h
  split at h
  · rename_i r hr
    obtain ⟨vc, h1, h2⟩ := res1_run (P := P) h hf hO
    refine ⟨vc, ?_, h2⟩
    rw [hr]
    simp only [List.mapM_cons, List.mapM_nil, Sem.run_bind, Sem.run_map, h1, Result.andThen_ok, Sem.run_pure]
    rfl
  · rename_i rs hne
    simp only [Option.map_eq_some_iff] at h
    obtain ⟨l, h1, rfl⟩ := h
    obtain ⟨vs, h2, h3, h4⟩ := key _ _ h1
    refine ⟨.tuple vs.toArray, ?_, vs, rfl, h3⟩
    simp only [Sem.run_bind, Sem.run_map, h2, Result.andThen_ok, Sem.run_pure]
    have : ¬ vs.toArray.size = 1 := by
      intro e
      have : fn.results.toList.length = 1 := by rw [← h4]; simpa using e
      match hh : fn.results.toList, this with
      | [r], _ => exact hne r hh
    rw [dif_neg this]

theorem HR.nil (w : World) : HR ρ0 w [] :=
  ⟨fun i => by rw [hg_ge _ (Nat.zero_le _)]; trivial, fun i j Li Lj _ h => by rw [hg_ge _ (Nat.zero_le _)] at h; simp [AObj.owned] at h, fun _ _ => rfl⟩

theorem Keep.refl (w : World) (M : Nat → Prop) (h : ∀ b c t f, w.heap[b]? = some (.cells c t f) → M b → f = (0, 0)) : Keep w M w :=
  ⟨rfl, rfl, rfl, Nat.le_refl _, fun _ _ _ => rfl, fun b c t f hf hm => by
    rcases hm with hm | hm
    · rw [Array.getElem?_eq_none hm] at hf; simp at hf
    · exact h b c t f hf hm⟩

/-- A function of values alone: its contract out of its run. -/
theorem pu_of_arun {f : Nat} {fn : Func} {code : Code} {rs : List ResultVar} {n : Nat} {s : List AV → Option AV} (drawn : Array Oper → Bool) (hf : P.funcs[f]? = some fn) (hb : fn.body = some code) (hrs : fn.results = rs.toArray) (hn : fn.ntmps = n) (hname : (fn.name == "runtime.NumGoroutine") = false)
    (ht : TabOk P tab) (hdr : ∀ ops, drawn ops = true → opsOk n ops.toList = true → DrawOk P tab n ops) (hok : okC n drawn code = true)
    (h : ∀ args v, s args = some v → args.length ≤ n ∧ args.all AV.pf = true ∧ v.pf = true ∧ arun P tab [.c code] (frA 0 args) [] (fun fr H => resA P fr H rs = some v)) : PuOk P f s := by
  obtain rfl : fn.results.toList = rs := by rw [hrs]
  subst hn
  refine ⟨fun args w => ?_, fun args v hs ρ w cs hcs => ?_⟩
  · have hn : ¬ fn.name = "runtime.NumGoroutine" := by simpa using hname
    simp [callFunc, hf, hn, hb]
  · obtain ⟨h1, h2, h3, h4⟩ := h args v hs
    have hrel : L2 (VRel ρ0) args cs := by
      clear h1 h4 hs
      induction hcs with
      | nil => exact .nil
      | cons h _ ih => simp only [List.all_cons, Bool.and_eq_true] at h2; exact .cons (h.pf h2.1) (ih h2.2)
    have hlen := hcs.length
    refine calls_of_wp hf hb ?_
    have hst : St fn.ntmps w ⟨fun _ => False, 0, ρ0⟩ ρ0 (frA 0 args) [] { tmps := cs.toArray ++ Array.replicate (fn.ntmps - cs.toArray.size) undef, defers := [] } w := by
      refine ⟨fun x => ?_, by simp; omega, rfl, HR.nil w, Keep.refl w _ (fun _ _ _ _ _ h => h.elim), fun i L h => by rw [hg_ge _ (Nat.zero_le _)] at h; simp [AObj.owned] at h, fun i h => absurd h (Nat.not_lt_zero _)⟩
      have := get_frA args cs hrel 0 x
      rw [if_pos (Nat.zero_le _), Nat.sub_zero] at this
      have e : (cs.toArray ++ Array.replicate (fn.ntmps - cs.toArray.size) undef).getD x undef = cs.getD x undef := by
        rw [Array.getD_eq_getD_getElem?, List.getD_eq_getElem?_getD, Array.getElem?_append]
        split
        · simp
        · rename_i hx
          simp at hx
          rw [List.getElem?_eq_none hx, Array.getElem?_replicate]
          split <;> rfl
      rw [e]; exact this
    have hkp := sound (M := ⟨fun _ => False, 0, ρ0⟩) (Nat.zero_le _) ht drawn hdr (kwt [.c code]) [.c code] (Nat.le_refl _) (by simp [okK, okI, hok]) _ _ h4 _ _ _ hst
    refine wp_mono (show code.wp P (Kp P fn.ntmps w ⟨fun _ => False, 0, ρ0⟩ _ []) _ w from hkp) ?_
    intro e a2 w2 hq
    have fin : SI fn.ntmps w ⟨fun _ => False, 0, ρ0⟩ (fun fr H => resA P fr H fn.results.toList = some v) a2 w2 → a2.defers = [] ∧ ∃ v', (results fn a2.tmps).run P w2 = .ok v' w2 ∧ ∃ vc, Ending.returned v' = .returned vc ∧ (∀ ρ', VRel ρ' v vc) ∧ Keep w (fun _ => False) w2 := by
      rintro ⟨ρ2, fr2, H2, hs2, hres⟩
      obtain ⟨vc, h5, h6⟩ := resA_run (P := P) hres hs2.fr hs2.hr.obj
      exact ⟨hs2.df, vc, h5, vc, rfl, fun ρ' => h6.pf h3, hs2.kp⟩
    cases e <;> first | exact fin hq | exact hq.elim

end Go.Am

/- Rules by which 'simp only' runs a text. -/
namespace Go.Am
variable {P : Program} {tab : Tab} {full : Array Oper} {os : List Oper} {k : List It} {fr : Fr} {H : AH} {Q : Fr → AH → Prop}

/-- what comes behind an operation -/
def nxt (P : Program) (tab : Tab) (full : Array Oper) (os : List Oper) (k : List It) (Q : Fr → AH → Prop) (d : Option Nat) (fr : Fr) (r : Option (AV × AH)) : Prop :=
  match r with
  | some (v, H') => arun P tab (.ops full os :: k) (putA d v fr) H' Q
  | none => False
theorem nxt_some {d : Option Nat} {v : AV} {H' : AH} : nxt P tab full os k Q d fr (some (v, H')) = arun P tab (.ops full os :: k) (putA d v fr) H' Q := rfl
theorem putA_some {d : Nat} {v : AV} : putA (some d) v fr = (d, v) :: fr := rfl
theorem putA_none {v : AV} : putA none v fr = fr := rfl

/-- an operation without a guard -/
theorem st_go {d : Option Nat} {op : Op} {ty : Nat} {pos : String} {af : Array Edge} :
    arun P tab (.ops full (⟨d, op, ty, pos, af, none⟩ :: os) :: k) fr H Q = nxt P tab full os k Q d fr (astep P tab op ((opnds op).map (ev fr)) H) := by rw [arun_op]; rfl
/-- an operation with a guard -/
def grd (P : Program) (tab : Tab) (full : Array Oper) (os : List Oper) (k : List It) (Q : Fr → AH → Prop) (d : Option Nat) (op : Op) (want : Bool) (fr : Fr) (H : AH) (g : AV) : Prop :=
  match g with
  | .c (.b q) => if q = want then nxt P tab full os k Q d fr (astep P tab op ((opnds op).map (ev fr)) H) else arun P tab (.ops full os :: k) (putA d (.c .und) fr) H Q
  | .c .und => arun P tab (.ops full os :: k) (putA d (.c .und) fr) H Q
  | _ => False
theorem grd_b {d : Option Nat} {op : Op} {want q : Bool} : grd P tab full os k Q d op want fr H (.c (.b q)) = if q = want then nxt P tab full os k Q d fr (astep P tab op ((opnds op).map (ev fr)) H) else arun P tab (.ops full os :: k) (putA d (.c .und) fr) H Q := rfl
theorem grd_und {d : Option Nat} {op : Op} {want : Bool} : grd P tab full os k Q d op want fr H (.c .und) = arun P tab (.ops full os :: k) (putA d (.c .und) fr) H Q := rfl
/-- the slot of a region's operation -/
def dstA (full : Array Oper) (j : Nat) : Option Nat := (full[j]?).bind (·.dst)
def gslot (full : Array Oper) (fr : Fr) (j : Nat) : AV :=
  match dstA full j with
  | some e => Am.get fr e
  | none => .c .und
theorem st_gd {d : Option Nat} {op : Op} {ty j : Nat} {want : Bool} {pos : String} {af : Array Edge} :
    arun P tab (.ops full (⟨d, op, ty, pos, af, some (j, want)⟩ :: os) :: k) fr H Q = grd P tab full os k Q d op want fr H (gslot full fr j) := by
  rw [arun_op]
  simp only [gval, gslot, dstA]
  cases (full[j]?).bind (·.dst) with
  | none => rfl
  | some e =>
    simp only
    cases Am.get fr e with
    | c s => cases s <;> rfl
    | g l => rfl
    | t l => rfl

/-- the text and what comes behind it are no matter of simp's -/
@[congr] theorem arun_cg {fr' : Fr} {H' : AH} (h1 : fr = fr') (h2 : H = H') : arun P tab k fr H Q = arun P tab k fr' H' Q := by rw [h1, h2]
@[congr] theorem nxt_cg {d : Option Nat} {r r' : Option (AV × AH)} (h1 : r = r') : nxt P tab full os k Q d fr r = nxt P tab full os k Q d fr r' := by rw [h1]
@[congr] theorem grd_cg {d : Option Nat} {op : Op} {want : Bool} {g g' : AV} (h1 : g = g') : grd P tab full os k Q d op want fr H g = grd P tab full os k Q d op want fr H g' := by rw [h1]
theorem nxt_put {d : Nat} {v : AV} {H' : AH} : nxt P tab full os k Q (some d) fr (some (v, H')) = arun P tab (.ops full os :: k) ((d, v) :: fr) H' Q := rfl
theorem nxt_non {v : AV} {H' : AH} : nxt P tab full os k Q none fr (some (v, H')) = arun P tab (.ops full os :: k) fr H' Q := rfl
theorem arun_rgn {id : Nat} {l : List Oper} : arun P tab (.c (.region id l.toArray false) :: k) fr H Q = arun P tab (.ops l.toArray l :: k) fr H Q := by rw [arun_region]
/-! ### regions that draw their order -/
/-- the next operation of one, with its number -/
def gd (P : Program) (tab : Tab) (full : Array Oper) (os : List Oper) (i : Nat) (log : List (Nat × Tc)) (k : List It) (Q : Fr → AH → Prop) (fr : Fr) (H : AH) : Prop := arun P tab (.dr full os i log :: k) fr H Q
theorem gd_eq {i : Nat} {log : List (Nat × Tc)} : gd P tab full os i log k Q fr H = arun P tab (.dr full os i log :: k) fr H Q := rfl
@[congr] theorem gd_cg {i i' : Nat} {log : List (Nat × Tc)} (h : i = i') : gd P tab full os i log k Q fr H = gd P tab full os i' log k Q fr H := by rw [h]
def nxd (P : Program) (tab : Tab) (full : Array Oper) (os : List Oper) (i : Nat) (log : List (Nat × Tc)) (k : List It) (Q : Fr → AH → Prop) (d : Option Nat) (fr : Fr) (H : AH) (t : Tc) (r : Option (AV × AH)) : Prop :=
  match r with
  | some (v, H') => okT full i (tcx t H H') log ∧ arun P tab (.dr full os (i + 1) (psh i (tcx t H H') log) :: k) (putA d v fr) H' Q
  | none => False
@[congr] theorem nxd_cg {i : Nat} {log : List (Nat × Tc)} {d : Option Nat} {t t' : Tc} {r r' : Option (AV × AH)} (h : t = t') (h1 : r = r') : nxd P tab full os i log k Q d fr H t r = nxd P tab full os i log k Q d fr H t' r' := by rw [h, h1]
theorem arun_rgd {id : Nat} {l : List Oper} : arun P tab (.c (.region id l.toArray true) :: k) fr H Q = arun P tab (.dr l.toArray l 0 [] :: k) fr H Q := by rw [arun_regiond]
theorem sd_go {i : Nat} {log : List (Nat × Tc)} {d : Option Nat} {op : Op} {ty : Nat} {pos : String} {af : Array Edge} :
    arun P tab (.dr full (⟨d, op, ty, pos, af, none⟩ :: os) i log :: k) fr H Q = nxd P tab full os i log k Q d fr H (tcof P tab op ((opnds op).map (ev fr))) (astep P tab op ((opnds op).map (ev fr)) H) := by rw [arun_dr]; rfl
def grdd (P : Program) (tab : Tab) (full : Array Oper) (os : List Oper) (i : Nat) (log : List (Nat × Tc)) (k : List It) (Q : Fr → AH → Prop) (d : Option Nat) (op : Op) (want : Bool) (fr : Fr) (H : AH) (g : AV) : Prop :=
  match g with
  | .c (.b q) => if q = want then nxd P tab full os i log k Q d fr H (tcof P tab op ((opnds op).map (ev fr))) (astep P tab op ((opnds op).map (ev fr)) H) else arun P tab (.dr full os (i + 1) log :: k) (putA d (.c .und) fr) H Q
  | .c .und => arun P tab (.dr full os (i + 1) log :: k) (putA d (.c .und) fr) H Q
  | _ => False
@[congr] theorem grdd_cg {i : Nat} {log : List (Nat × Tc)} {d : Option Nat} {op : Op} {want : Bool} {g g' : AV} (h1 : g = g') : grdd P tab full os i log k Q d op want fr H g = grdd P tab full os i log k Q d op want fr H g' := by rw [h1]
theorem grdd_b {i : Nat} {log : List (Nat × Tc)} {d : Option Nat} {op : Op} {want q : Bool} : grdd P tab full os i log k Q d op want fr H (.c (.b q)) = if q = want then nxd P tab full os i log k Q d fr H (tcof P tab op ((opnds op).map (ev fr))) (astep P tab op ((opnds op).map (ev fr)) H) else arun P tab (.dr full os (i + 1) log :: k) (putA d (.c .und) fr) H Q := rfl
theorem okT_no {i : Nat} : ∀ {log : List (Nat × Tc)}, okT full i .no log = True
  | [] => rfl
  | (j, u) :: r => by simp only [okT, clash, false_imp_iff, true_and]; exact okT_no
theorem nd_no {i d : Nat} {log : List (Nat × Tc)} {v : AV} {H' : AH} : nxd P tab full os i log k Q (some d) fr H .no (some (v, H')) = gd P tab full os (i + 1) log k Q ((d, v) :: fr) H' := by
  simp only [nxd, tcx, okT_no, psh, true_and]; rfl
theorem nn_no {i : Nat} {log : List (Nat × Tc)} {v : AV} {H' : AH} : nxd P tab full os i log k Q none fr H .no (some (v, H')) = gd P tab full os (i + 1) log k Q fr H' := by
  simp only [nxd, tcx, okT_no, psh, true_and]; rfl
theorem nd_ld {i d a b c : Nat} {log : List (Nat × Tc)} {v : AV} {H' : AH} : nxd P tab full os i log k Q (some d) fr H (.ld a b c) (some (v, H')) = (okT full i (.ld a b c) log ∧ gd P tab full os (i + 1) ((i, .ld a b c) :: log) k Q ((d, v) :: fr) H') := rfl
theorem nd_mk {i d : Nat} {log : List (Nat × Tc)} {v : AV} {H' : AH} : nxd P tab full os i log k Q (some d) fr H .mk (some (v, H')) = (okT full i .mk log ∧ gd P tab full os (i + 1) ((i, .mk) :: log) k Q ((d, v) :: fr) H') := rfl
theorem nd_rd {i d : Nat} {log : List (Nat × Tc)} {v : AV} {H' : AH} : nxd P tab full os i log k Q (some d) fr H .rd (some (v, H')) = (okT full i .rd log ∧ gd P tab full os (i + 1) ((i, .rd) :: log) k Q ((d, v) :: fr) H') := rfl
theorem nd_bar {i d : Nat} {log : List (Nat × Tc)} {v : AV} {H' : AH} : nxd P tab full os i log k Q (some d) fr H .bar (some (v, H')) = (okT full i (.cl H H') log ∧ gd P tab full os (i + 1) ((i, .cl H H') :: log) k Q ((d, v) :: fr) H') := rfl
theorem nn_rd {i : Nat} {log : List (Nat × Tc)} {v : AV} {H' : AH} : nxd P tab full os i log k Q none fr H .rd (some (v, H')) = (okT full i .rd log ∧ gd P tab full os (i + 1) ((i, .rd) :: log) k Q fr H') := rfl
theorem nn_bar {i : Nat} {log : List (Nat × Tc)} {v : AV} {H' : AH} : nxd P tab full os i log k Q none fr H .bar (some (v, H')) = (okT full i (.cl H H') log ∧ gd P tab full os (i + 1) ((i, .cl H H') :: log) k Q fr H') := rfl
theorem nn_st {i a b c : Nat} {log : List (Nat × Tc)} {v : AV} {H' : AH} : nxd P tab full os i log k Q none fr H (.st a b c) (some (v, H')) = (okT full i (.st a b c) log ∧ gd P tab full os (i + 1) ((i, .st a b c) :: log) k Q fr H') := rfl
theorem gdd_tt {i : Nat} {log : List (Nat × Tc)} {d : Option Nat} {op : Op} : grdd P tab full os i log k Q d op true fr H (.c (.b true)) = nxd P tab full os i log k Q d fr H (tcof P tab op ((opnds op).map (ev fr))) (astep P tab op ((opnds op).map (ev fr)) H) := rfl
theorem gdd_ff {i : Nat} {log : List (Nat × Tc)} {d : Option Nat} {op : Op} : grdd P tab full os i log k Q d op false fr H (.c (.b false)) = nxd P tab full os i log k Q d fr H (tcof P tab op ((opnds op).map (ev fr))) (astep P tab op ((opnds op).map (ev fr)) H) := rfl
theorem gdd_tf {i d : Nat} {log : List (Nat × Tc)} {op : Op} : grdd P tab full os i log k Q (some d) op true fr H (.c (.b false)) = gd P tab full os (i + 1) log k Q ((d, .c .und) :: fr) H := by
  rw [grdd_b, if_neg (by decide)]; rfl
theorem gdd_ft {i d : Nat} {log : List (Nat × Tc)} {op : Op} : grdd P tab full os i log k Q (some d) op false fr H (.c (.b true)) = gd P tab full os (i + 1) log k Q ((d, .c .und) :: fr) H := by
  rw [grdd_b, if_neg (by decide)]; rfl
theorem gdd_u {i d : Nat} {log : List (Nat × Tc)} {op : Op} {want : Bool} : grdd P tab full os i log k Q (some d) op want fr H (.c .und) = gd P tab full os (i + 1) log k Q ((d, .c .und) :: fr) H := rfl
theorem gdd_ntf {i : Nat} {log : List (Nat × Tc)} {op : Op} : grdd P tab full os i log k Q none op true fr H (.c (.b false)) = gd P tab full os (i + 1) log k Q fr H := by
  rw [grdd_b, if_neg (by decide)]; rfl
theorem gdd_nft {i : Nat} {log : List (Nat × Tc)} {op : Op} : grdd P tab full os i log k Q none op false fr H (.c (.b true)) = gd P tab full os (i + 1) log k Q fr H := by
  rw [grdd_b, if_neg (by decide)]; rfl
theorem gdd_nu {i : Nat} {log : List (Nat × Tc)} {op : Op} {want : Bool} : grdd P tab full os i log k Q none op want fr H (.c .und) = gd P tab full os (i + 1) log k Q fr H := rfl
@[congr] theorem tcof_cg {op : Op} {vs : List AV} : tcof P tab op vs = tcof P tab op vs := rfl
theorem tc_load {t : Nat} {x : Operand} {vs : List AV} : tcof P tab (.load t x) vs = tcL (szT P t) vs := rfl
theorem tc_store {t : Nat} {x y : Operand} {vs : List AV} : tcof P tab (.store t x y) vs = tcS (szT P t) vs := rfl
theorem tc_alloc {t : Nat} {vs : List AV} : tcof P tab (.alloc t) vs = .mk := rfl
theorem tc_box {t : Nat} {x : Operand} {vs : List AV} : tcof P tab (.box t x) vs = .mk := rfl
theorem tc_buildSlice {t n : Nat} {ps : Array (Nat × Operand)} {vs : List AV} : tcof P tab (.buildSlice t n ps) vs = .mk := rfl
theorem tc_makeSlice {t : Nat} {x y : Operand} {vs : List AV} : tcof P tab (.makeSlice t x y) vs = .mk := rfl
theorem tc_call {f : Operand} {as : Array Operand} {ts : Array TypeId} {vs : List AV} : tcof P tab (.call ⟨.value f, as, ts⟩) vs = tcC tab vs := rfl
theorem tc_move {x : Operand} {vs : List AV} : tcof P tab (.move x) vs = .no := rfl
theorem tc_assign {x : Operand} {vs : List AV} : tcof P tab (.assign x) vs = .no := rfl
theorem tc_pick {x y z : Operand} {vs : List AV} : tcof P tab (.pick x y z) vs = .no := rfl
theorem tc_build {t : Nat} {ps : Array (Nat × Operand)} {vs : List AV} : tcof P tab (.build t ps) vs = .no := rfl
theorem tc_nilCheck {x : Operand} {vs : List AV} : tcof P tab (.nilCheck x) vs = .no := rfl
theorem tc_binOp {o : BinOp} {t u : Nat} {x y : Operand} {vs : List AV} : tcof P tab (.binOp o t x y u) vs = .no := rfl
theorem tc_unOp {o : UnOp} {t : Nat} {x : Operand} {vs : List AV} : tcof P tab (.unOp o t x) vs = .no := rfl
theorem tc_convert {t u : Nat} {x : Operand} {vs : List AV} : tcof P tab (.convert t u x) vs = .no := rfl
theorem tc_makeFunc {f : Fn} {x y : Array Operand} {vs : List AV} : tcof P tab (.makeFunc f x y) vs = .no := rfl
theorem tc_fieldAddr {t n : Nat} {x : Operand} {vs : List AV} : tcof P tab (.fieldAddr t x n) vs = .no := rfl
theorem tc_field {t n : Nat} {x : Operand} {vs : List AV} : tcof P tab (.field t x n) vs = .no := rfl
theorem tc_indexAddr {t : Nat} {x y : Operand} {vs : List AV} : tcof P tab (.indexAddr t x y) vs = .no := rfl
theorem tc_index {t : Nat} {x y : Operand} {vs : List AV} : tcof P tab (.index t x y) vs = .no := rfl
theorem tc_slice {t : Nat} {x : Operand} {a b c : Option Operand} {vs : List AV} : tcof P tab (.slice t x a b c) vs = .no := rfl
theorem tc_extract {n : Nat} {x : Operand} {vs : List AV} : tcof P tab (.extract x n) vs = .no := rfl
theorem tc_len {as : Array Operand} {ts : Array TypeId} {vs : List AV} : tcof P tab (.call ⟨.builtin .len, as, ts⟩) vs = .no := rfl
theorem tc_min {as : Array Operand} {ts : Array TypeId} {vs : List AV} : tcof P tab (.call ⟨.builtin .min, as, ts⟩) vs = .no := rfl
theorem tc_max {as : Array Operand} {ts : Array TypeId} {vs : List AV} : tcof P tab (.call ⟨.builtin .max, as, ts⟩) vs = .no := rfl
theorem tc_append {as : Array Operand} {ts : Array TypeId} {vs : List AV} : tcof P tab (.call ⟨.builtin .append, as, ts⟩) vs = .bar := rfl
theorem tl_eq {n id off ver : Nat} : tcL n [.c (.p id off ver)] = .ld id off n := rfl
theorem ts_eq {n id off ver : Nat} {x : AV} : tcS n [.c (.p id off ver), x] = .st id off n := rfl
theorem ok_nil {i : Nat} {t : Tc} : okT full i t [] = True := rfl
theorem ok_cons {i j : Nat} {t u : Tc} {r : List (Nat × Tc)} : okT full i t ((j, u) :: r) = ((clash t u → tied full i j = true) ∧ okT full i t r) := rfl
theorem cl_ll {a b c d e f : Nat} : clash (.ld a b c) (.ld d e f) = False := rfl
theorem cl_lm {a b c : Nat} : clash (.ld a b c) .mk = False := rfl
theorem cl_lr {a b c : Nat} : clash (.ld a b c) .rd = False := rfl
theorem cl_ls {i a n j b m : Nat} : clash (.ld i a n) (.st j b m) = (i = j ∧ a < b + m ∧ b < a + n) := rfl
theorem cl_lb {a b c : Nat} {A B : AH} : clash (.ld a b c) (.cl A B) = ¬ (hg B a = hg A a ∧ (hg A a).live = true) := rfl
theorem cl_sl {i a n j b m : Nat} : clash (.st i a n) (.ld j b m) = (i = j ∧ a < b + m ∧ b < a + n) := rfl
theorem cl_ss {i a n j b m : Nat} : clash (.st i a n) (.st j b m) = (i = j ∧ a < b + m ∧ b < a + n) := rfl
theorem cl_sm {a b c : Nat} : clash (.st a b c) .mk = False := rfl
theorem cl_sr {a b c : Nat} : clash (.st a b c) .rd = True := rfl
theorem cl_sb {a b c : Nat} {A B : AH} : clash (.st a b c) (.cl A B) = True := rfl
theorem cl_ml {a b c : Nat} : clash .mk (.ld a b c) = False := rfl
theorem cl_ms {a b c : Nat} : clash .mk (.st a b c) = False := rfl
theorem cl_mm : clash .mk .mk = False := rfl
theorem cl_mr : clash .mk .rd = True := rfl
theorem cl_mb {A B : AH} : clash .mk (.cl A B) = True := rfl
theorem cl_rl {a b c : Nat} : clash .rd (.ld a b c) = False := rfl
theorem cl_rs {a b c : Nat} : clash .rd (.st a b c) = True := rfl
theorem cl_rm : clash .rd .mk = True := rfl
theorem cl_rr : clash .rd .rd = False := rfl
theorem cl_rb {A B : AH} : clash .rd (.cl A B) = True := rfl
theorem cl_bl {a b c : Nat} {A B : AH} : clash (.cl A B) (.ld a b c) = ¬ (hg B a = hg A a ∧ (hg A a).live = true) := rfl
theorem cl_bs {a b c : Nat} {A B : AH} : clash (.cl A B) (.st a b c) = True := rfl
theorem cl_bm {A B : AH} : clash (.cl A B) .mk = True := rfl
theorem cl_br {A B : AH} : clash (.cl A B) .rd = True := rfl
theorem cl_bb {A B C D : AH} : clash (.cl A B) (.cl C D) = True := rfl
theorem sd_gd {i : Nat} {log : List (Nat × Tc)} {d : Option Nat} {op : Op} {ty j : Nat} {want : Bool} {pos : String} {af : Array Edge} :
    arun P tab (.dr full (⟨d, op, ty, pos, af, some (j, want)⟩ :: os) i log :: k) fr H Q = grdd P tab full os i log k Q d op want fr H (gslot full fr j) := by
  rw [arun_dr]
  simp only [gval, gslot, dstA]
  cases (full[j]?).bind (·.dst) with
  | none => rfl
  | some e =>
    simp only
    cases Am.get fr e with
    | c s => cases s <;> rfl
    | g l => rfl
    | t l => rfl

theorem grd_tt {d : Option Nat} {op : Op} : grd P tab full os k Q d op true fr H (.c (.b true)) = nxt P tab full os k Q d fr (astep P tab op ((opnds op).map (ev fr)) H) := rfl
theorem grd_ff {d : Option Nat} {op : Op} : grd P tab full os k Q d op false fr H (.c (.b false)) = nxt P tab full os k Q d fr (astep P tab op ((opnds op).map (ev fr)) H) := rfl
theorem grd_tf {d : Nat} {op : Op} : grd P tab full os k Q (some d) op true fr H (.c (.b false)) = arun P tab (.ops full os :: k) ((d, .c .und) :: fr) H Q := by
  rw [grd_b, if_neg (by decide)]; rfl
theorem grd_ft {d : Nat} {op : Op} : grd P tab full os k Q (some d) op false fr H (.c (.b true)) = arun P tab (.ops full os :: k) ((d, .c .und) :: fr) H Q := by
  rw [grd_b, if_neg (by decide)]; rfl
theorem grd_u {d : Nat} {op : Op} {want : Bool} : grd P tab full os k Q (some d) op want fr H (.c .und) = arun P tab (.ops full os :: k) ((d, .c .und) :: fr) H Q := rfl
theorem grd_ntf {op : Op} : grd P tab full os k Q none op true fr H (.c (.b false)) = arun P tab (.ops full os :: k) fr H Q := by
  rw [grd_b, if_neg (by decide)]; rfl
theorem grd_nft {op : Op} : grd P tab full os k Q none op false fr H (.c (.b true)) = arun P tab (.ops full os :: k) fr H Q := by
  rw [grd_b, if_neg (by decide)]; rfl
theorem grd_nu {op : Op} {want : Bool} : grd P tab full os k Q none op want fr H (.c .und) = arun P tab (.ops full os :: k) fr H Q := rfl
def cnd (P : Program) (tab : Tab) (a b : Code) (k : List It) (Q : Fr → AH → Prop) (fr : Fr) (H : AH) (v : AV) : Prop :=
  match v with
  | .c (.b true) => arun P tab (.c a :: k) fr H Q
  | .c (.b false) => arun P tab (.c b :: k) fr H Q
  | .c .qq => arun P tab (.c a :: k) fr H Q ∧ arun P tab (.c b :: k) fr H Q
  | _ => False
theorem cnd_qq {a b : Code} : cnd P tab a b k Q fr H (.c .qq) = (arun P tab (.c a :: k) fr H Q ∧ arun P tab (.c b :: k) fr H Q) := rfl
@[congr] theorem cnd_cg {a b : Code} {v v' : AV} (h : v = v') : cnd P tab a b k Q fr H v = cnd P tab a b k Q fr H v' := by rw [h]
theorem cnd_tt {a b : Code} : cnd P tab a b k Q fr H (.c (.b true)) = arun P tab (.c a :: k) fr H Q := rfl
theorem cnd_ff {a b : Code} : cnd P tab a b k Q fr H (.c (.b false)) = arun P tab (.c b :: k) fr H Q := rfl
theorem arun_cnd {x : Operand} {a b : Code} : arun P tab (.c (.cond x a b) :: k) fr H Q = cnd P tab a b k Q fr H (ev fr x) := by
  rw [arun_cond]
  generalize ev fr x = v
  cases v with
  | c s => cases s <;> first | rfl | (rename_i q; cases q <;> rfl)
  | g l => rfl
  | t l => rfl

theorem oc_own {l : List Sc} : (AObj.own l).cells = l := rfl
theorem oc_vec {l : List Sc} {n : Nat} : (AObj.vec n l).cells = l := rfl
theorem oc_view {l : List Sc} : (AObj.view l).cells = l := rfl
theorem or_own {l : List Sc} : (AObj.own l).row = 0 := rfl
theorem or_vec {l : List Sc} {n : Nat} : (AObj.vec n l).row = l.length := rfl
theorem or_view {l : List Sc} : (AObj.view l).row = 0 := rfl
theorem oo_own {l : List Sc} : (AObj.own l).owned = true := rfl
theorem ol_own {l : List Sc} : (AObj.own l).live = true := rfl
theorem ol_vec {l : List Sc} {n : Nat} : (AObj.vec n l).live = true := rfl
theorem ol_view {l : List Sc} : (AObj.view l).live = true := rfl
theorem oo_vec {l : List Sc} {n : Nat} : (AObj.vec n l).owned = true := rfl
theorem op_own {l m : List Sc} : (AObj.own l).put m = .own m := rfl
theorem op_vec {l m : List Sc} {n : Nat} : (AObj.vec n l).put m = .vec n m := rfl
theorem hg_zero {o : AObj} {H : AH} : hg (o :: H) 0 = o := rfl
theorem hg_succ {o : AObj} {H : AH} {n : Nat} : hg (o :: H) (n + 1) = hg H n := rfl
theorem hg_len {H X : AH} : hg (H ++ X) H.length = hg X 0 := by
  unfold hg; rw [List.getD_eq_getElem?_getD, List.getD_eq_getElem?_getD, List.getElem?_append_right (Nat.le_refl _), Nat.sub_self]
theorem hg_len_add {H X : AH} {n : Nat} : hg (H ++ X) (H.length + n) = hg X n := by
  unfold hg; rw [List.getD_eq_getElem?_getD, List.getD_eq_getElem?_getD, List.getElem?_append_right (Nat.le_add_right _ _), Nat.add_sub_cancel_left]
theorem hg_lt' {H X : AH} {n : Nat} (h : n < H.length) : hg (H ++ X) n = hg H n := by
  unfold hg; rw [List.getD_eq_getElem?_getD, List.getD_eq_getElem?_getD, List.getElem?_append_left h]
theorem hg_set_same {H : AH} {o : AObj} {n : Nat} (h : n < H.length) : hg (H.set n o) n = o := by simp [hg, List.getD_eq_getElem?_getD, h]
theorem hg_set_ne {H : AH} {o : AObj} {m n : Nat} (h : (m == n) = false) : hg (H.set m o) n = hg H n := by
  have h' : m ≠ n := by simpa using h
  unfold hg; rw [List.getD_eq_getElem?_getD, List.getD_eq_getElem?_getD, List.getElem?_set_ne h']
theorem set_len {H X : AH} {o : AObj} : (H ++ X).set H.length o = H ++ X.set 0 o := by rw [List.set_append_right _ _ (Nat.le_refl _), Nat.sub_self]
theorem set_len_add {H X : AH} {o : AObj} {n : Nat} : (H ++ X).set (H.length + n) o = H ++ X.set n o := by rw [List.set_append_right _ _ (Nat.le_add_right _ _), Nat.add_sub_cancel_left]
theorem set_lt' {H X : AH} {o : AObj} {n : Nat} (h : n < H.length) : (H ++ X).set n o = H.set n o ++ X := by rw [List.set_append_left _ _ h]

/-! ### operands -/
theorem ev_tmp {t : Nat} : ev fr (.tmp t) = Am.get fr t := rfl
theorem ev_func {f : Nat} : ev fr (.func f) = .c (.f f []) := rfl
theorem ev_i {n : Int} (h : -9223372036854775808 ≤ n ∧ n ≤ 9223372036854775807) : ev fr (.const (.int .i64 n)) = .c (.i n) := by simp only [ev, absC, absS, h, and_self, if_true]
theorem ev_u {n : Int} (h : 0 ≤ n ∧ n ≤ 18446744073709551615) : ev fr (.const (.int .u64 n)) = .c (.u (BitVec.ofInt 64 n)) := by simp only [ev, absC, absS, h, and_self, if_true]
theorem ev_b {q : Bool} : ev fr (.const (.bool q)) = .c (.b q) := rfl
theorem ev_nils : ev fr (.const (.slice none 0 0)) = .c .nils := rfl
theorem ev_nilp : ev fr (.const (.pointer none)) = .c .nilp := rfl
theorem ev_nilf : ev fr (.const .nilFunc) = .c .nilf := rfl
theorem get_same {d : Nat} {v : AV} : Am.get ((d, v) :: fr) d = v := by simp [Am.get]
theorem get_ne {d s : Nat} {v : AV} (h : (d == s) = false) : Am.get ((d, v) :: fr) s = Am.get fr s := by simp at h; simp [Am.get, h]

/-! ### single operations -/
section
variable {x y z : Operand} {a b c : AV} {t : Nat}
theorem op_move : opnds (.move x) = [x] := rfl
theorem op_assign : opnds (.assign x) = [x] := rfl
theorem op_box : opnds (.box t x) = [x] := rfl
theorem op_load : opnds (.load t x) = [x] := rfl
theorem op_nilCheck : opnds (.nilCheck x) = [x] := rfl
theorem op_unOp {o : UnOp} : opnds (.unOp o t x) = [x] := rfl
theorem op_convert {s : Nat} : opnds (.convert s t x) = [x] := rfl
theorem op_fieldAddr {n : Nat} : opnds (.fieldAddr t x n) = [x] := rfl
theorem op_field {n : Nat} : opnds (.field t x n) = [x] := rfl
theorem op_extract {n : Nat} : opnds (.extract x n) = [x] := rfl
theorem op_pick : opnds (.pick x y z) = [x, y, z] := rfl
theorem op_build {l : List (Nat × Operand)} : opnds (.build t l.toArray) = l.map (·.2) := rfl
theorem op_buildSlice {n : Nat} {l : List (Nat × Operand)} : opnds (.buildSlice t n l.toArray) = l.map (·.2) := rfl
theorem op_store : opnds (.store t x y) = [x, y] := rfl
theorem op_binOp {o : BinOp} {s : Nat} : opnds (.binOp o t x y s) = [x, y] := rfl
theorem op_makeSlice : opnds (.makeSlice t x y) = [x, y] := rfl
theorem op_indexAddr : opnds (.indexAddr t x y) = [x, y] := rfl
theorem op_index : opnds (.index t x y) = [x, y] := rfl
theorem op_makeFunc {f : Fn} {l m : List Operand} : opnds (.makeFunc f l.toArray m.toArray) = m := rfl
theorem op_slice {lo hi mx : Option Operand} : opnds (.slice t x lo hi mx) = x :: (lo.toList ++ hi.toList) := rfl
theorem op_call {l : List Operand} {ts : Array Nat} : opnds (.call ⟨.value x, l.toArray, ts⟩) = x :: l := rfl
theorem op_builtin {bi : Builtin} {l : List Operand} {ts : Array Nat} : opnds (.call ⟨.builtin bi, l.toArray, ts⟩) = l := rfl
theorem op_alloc : opnds (.alloc t) = [] := rfl

theorem as_move : astep P tab (.move x) [a] H = some (a, H) := rfl
theorem as_assign : astep P tab (.assign x) [a] H = some (a, H) := rfl
theorem as_pick {q : Bool} : astep P tab (.pick x y z) [.c (.b q), a, b] H = some (if q = true then a else b, H) := by cases q <;> rfl
theorem as_build {l : List (Nat × Operand)} {vs : List AV} : astep P tab (.build t l.toArray) vs H = (buildA P t ((l.map (·.1)).zip vs)).map fun v => (v, H) := by
  show (match qop P (.build t l.toArray) vs _ with | some v => some (v, H) | none => eop P _ _ _) = _
  simp only [qop]
  cases buildA P t ((l.map (·.1)).zip vs) <;> rfl
theorem as_load {id off ver : Nat} : astep P tab (.load t x) [.c (.p id off ver)] H = (ldA P t H (.c (.p id off ver))).map fun v => (v, H) := by
  show (match qop P (.load t x) [.c (.p id off ver)] [hg H id] with | some v => some (v, H) | none => eop P _ _ _) = _
  have e : qop P (.load t x) [.c (.p id off ver)] [hg H id] = ldA P t H (.c (.p id off ver)) := rfl
  simp only [e]
  cases ldA P t H (.c (.p id off ver)) <;> rfl
theorem as_nilCheck {id off ver : Nat} : astep P tab (.nilCheck x) [.c (.p id off ver)] H = some (.c (.p id off ver), H) := rfl
theorem as_nilCheckf {f : Nat} {cs : List (Nat × Nat × Nat)} : astep P tab (.nilCheck x) [.c (.f f cs)] H = some (.c (.f f cs), H) := rfl
theorem as_bin {o : BinOp} {s : Nat} : astep P tab (.binOp o t x y s) [a, b] H = (abin P o t a b).map fun v => (v, H) := by
  show (match qop P (.binOp o t x y s) [a, b] _ with | some v => some (v, H) | none => eop P _ _ _) = _
  simp only [qop]
  cases abin P o t a b <;> rfl
theorem as_un {o : UnOp} : astep P tab (.unOp o t x) [a] H = (aun o a).map fun v => (v, H) := by
  show (match qop P (.unOp o t x) [a] _ with | some v => some (v, H) | none => eop P _ _ _) = _
  simp only [qop]
  cases aun o a <;> rfl
theorem as_convert {s : Nat} : astep P tab (.convert s t x) [a] H = (if (dT P s).is = true then acv P t a else none).map fun v => (v, H) := by
  show (match qop P (.convert s t x) [a] ((touch (.convert s t x) [a]).map (hg H)) with | some v => some (v, H) | none => eop P _ _ _) = _
  have e : qop P (.convert s t x) [a] ((touch (.convert s t x) [a]).map (hg H)) = if (dT P s).is = true then acv P t a else none := rfl
  simp only [e]
  cases (if (dT P s).is = true then acv P t a else none) <;> rfl
theorem as_makeFunc {f : Nat} {m : List Operand} {vs : List AV} : astep P tab (.makeFunc (.func f) #[] m.toArray) vs H = (caps vs).map fun l => (.c (.f f l), H) := by
  show (match qop P (.makeFunc (.func f) #[] m.toArray) vs _ with | some v => some (v, H) | none => eop P _ _ _) = _
  simp only [qop, List.size_toArray, List.length_nil, if_true]
  cases caps vs <;> rfl
def fldA (P : Program) (d : D) (n id off ver : Nat) : Option AV :=
  match d with
  | .st fs => match fs[n]? with
    | some f => if 0 < szT P f.2 then some (.c (.p id (off + f.1) ver)) else none
    | none => none
  | _ => none
theorem as_fieldAddr {n id off ver : Nat} : astep P tab (.fieldAddr t x n) [.c (.p id off ver)] H = (fldA P (dT P t) n id off ver).map fun v => (v, H) := by
  show (match qop P (.fieldAddr t x n) [.c (.p id off ver)] _ with | some v => some (v, H) | none => eop P _ _ _) = _
  have e : qop P (.fieldAddr t x n) [.c (.p id off ver)] ((touch (.fieldAddr t x n) [.c (.p id off ver)]).map (hg H)) = fldA P (dT P t) n id off ver := rfl
  simp only [e]
  cases fldA P (dT P t) n id off ver <;> rfl
def fldV (P : Program) (d : D) (n : Nat) (l : List Sc) : Option AV :=
  match d with
  | .st fs => match fs[n]? with
    | some f => if 0 < szT P f.2 ∧ (dT P f.2).is = true ∧ f.1 + szT P f.2 ≤ l.length then some (rd (dT P f.2).agg l f.1 (szT P f.2)) else none
    | none => none
  | _ => none
theorem as_field {n : Nat} {l : List Sc} : astep P tab (.field t x n) [.g l] H = (fldV P (dT P t) n l).map fun v => (v, H) := by
  show (match qop P (.field t x n) [.g l] _ with | some v => some (v, H) | none => eop P _ _ _) = _
  have e : qop P (.field t x n) [.g l] ((touch (.field t x n) [.g l]).map (hg H)) = fldV P (dT P t) n l := rfl
  simp only [e]
  cases fldV P (dT P t) n l <;> rfl
theorem as_indexAddr : astep P tab (.indexAddr t x y) [a, b] H = (indexAddrA P t a b).map fun v => (v, H) := by
  show (match qop P (.indexAddr t x y) [a, b] _ with | some v => some (v, H) | none => eop P _ _ _) = _
  simp only [qop]
  cases indexAddrA P t a b <;> rfl
theorem as_index : astep P tab (.index t x y) [a, b] H = (indexA P t a b).map fun v => (v, H) := by
  show (match qop P (.index t x y) [a, b] _ with | some v => some (v, H) | none => eop P _ _ _) = _
  simp only [qop]
  cases indexA P t a b <;> rfl
theorem as_slice00 : astep P tab (.slice t x none none none) [a] H = (sliceA P t a none none).map fun v => (v, H) := by
  show (match qop P (.slice t x none none none) [a] _ with | some v => some (v, H) | none => eop P _ _ _) = _
  simp only [qop]
  cases sliceA P t a none none <;> rfl
theorem as_slice10 : astep P tab (.slice t x (some y) none none) [a, b] H = (sliceA P t a (some b) none).map fun v => (v, H) := by
  show (match qop P (.slice t x (some y) none none) [a, b] _ with | some v => some (v, H) | none => eop P _ _ _) = _
  simp only [qop]
  cases sliceA P t a (some b) none <;> rfl
theorem as_slice01 : astep P tab (.slice t x none (some y) none) [a, b] H = (sliceA P t a none (some b)).map fun v => (v, H) := by
  show (match qop P (.slice t x none (some y) none) [a, b] _ with | some v => some (v, H) | none => eop P _ _ _) = _
  simp only [qop]
  cases sliceA P t a none (some b) <;> rfl
theorem as_slice11 : astep P tab (.slice t x (some y) (some z) none) [a, b, c] H = (sliceA P t a (some b) (some c)).map fun v => (v, H) := by
  show (match qop P (.slice t x (some y) (some z) none) [a, b, c] _ with | some v => some (v, H) | none => eop P _ _ _) = _
  simp only [qop]
  cases sliceA P t a (some b) (some c) <;> rfl
theorem as_extract {n : Nat} {l : List AV} : astep P tab (.extract x n) [.t l] H = (l[n]?).map fun v => (v, H) := by
  show (match qop P (.extract x n) [.t l] _ with | some v => some (v, H) | none => eop P _ _ _) = _
  simp only [qop]
  cases l[n]? <;> rfl
theorem as_len {l : Array Operand} {ts : List Nat} : astep P tab (.call ⟨.builtin .len, l, (t :: ts).toArray⟩) [a] H = (lenA P t a).map fun v => (v, H) := by
  show (match qop P (.call ⟨.builtin .len, l, (t :: ts).toArray⟩) [a] _ with | some v => some (v, H) | none => eop P _ _ _) = _
  simp only [qop, List.getElem?_toArray, List.getElem?_cons_zero]
  cases lenA P t a <;> rfl
theorem as_min {l : Array Operand} {ts : Array Nat} {m n : Int} : astep P tab (.call ⟨.builtin .min, l, ts⟩) [.c (.i m), .c (.i n)] H = some (.c (.i (min m n)), H) := rfl
theorem as_max {l : Array Operand} {ts : Array Nat} {m n : Int} : astep P tab (.call ⟨.builtin .max, l, ts⟩) [.c (.i m), .c (.i n)] H = some (.c (.i (max m n)), H) := rfl
theorem as_append {l : Array Operand} {ts : Array Nat} {vs : List AV} : astep P tab (.call ⟨.builtin .append, l, ts⟩) vs H = appA P ts vs H := rfl
theorem as_call {l : Array Operand} {ts : Array Nat} {f : Nat} {cs : List (Nat × Nat × Nat)} {vs : List AV} : astep P tab (.call ⟨.value x, l, ts⟩) (.c (.f f cs) :: vs) H = callA tab f (vs ++ cs.map capV) H := rfl
def allocA (z : Option (List Sc)) (H : AH) : Option (AV × AH) :=
  match z with
  | some z => some (.c (.p H.length 0 0), H ++ [.own z])
  | none => none
theorem as_alloc : astep P tab (.alloc t) [] H = allocA (zT P t) H := rfl
theorem as_box : astep P tab (.box t x) [a] H = allocA a.cells H := rfl
theorem allocA_some {z : List Sc} : allocA (some z) H = some (.c (.p H.length 0 0), H ++ [.own z]) := rfl
def storeA (P : Program) (t id off ver : Nat) (o : AObj) (l : Option (List Sc)) (H : AH) : Option (AV × AH) :=
  match l with
  | some l => if o.owned = true ∧ ver = o.row ∧ l.length = szT P t ∧ 0 < szT P t ∧ off + l.length ≤ o.cells.length ∧ l.all Sc.one = true then some (.c .und, H.set id (o.put (wr o.cells off l))) else none
  | none => none
theorem as_store {id off ver : Nat} : astep P tab (.store t x y) [.c (.p id off ver), a] H = storeA P t id off ver (hg H id) a.cells H := rfl
def bsA (P : Program) (t len : Nat) (is : List Nat) (m : Nat) (vs : List AV) (H : AH) : Option (AV × AH) :=
  match dT P t with
  | .sl e =>
    match zT P e with
    | some z =>
      if 0 < szT P e ∧ 0 < len ∧ len * szT P e ≤ 16777216 ∧ z.length = szT P e then
        match fillA (fun i => some (i * szT P e, szT P e)) (List.replicate len z).flatten (is.zip vs) with
        | some cs => some (.c (.sl H.length 0 cs.length len), H ++ [.vec (szT P e) cs])
        | none => none
      else if 0 < szT P e ∧ len = 0 ∧ m = 0 then some (.c (.sl H.length 0 0 0), H ++ [.vec (szT P e) []])
      else none
    | none => none
  | _ => none
theorem as_buildSlice {n : Nat} {l : List (Nat × Operand)} {vs : List AV} : astep P tab (.buildSlice t n l.toArray) vs H = bsA P t n (l.toArray.toList.map (·.1)) l.toArray.size vs H := by
  have e : astep P tab (.buildSlice t n l.toArray) vs H = (match qop P (.buildSlice t n l.toArray) vs ((touch (.buildSlice t n l.toArray) vs).map (hg H)) with | some v => some (v, H) | none => eop P (.buildSlice t n l.toArray) vs H) := by
    cases vs <;> rfl
  rw [e]
  have : qop P (.buildSlice t n l.toArray) vs ((touch (.buildSlice t n l.toArray) vs).map (hg H)) = none := by
    cases vs with
    | nil => rfl
    | cons a r => cases r with
      | nil => rfl
      | cons b r => cases r <;> rfl
  rw [this]
  rfl
def msA (P : Program) (t : Nat) (l c : Int) (H : AH) : Option (AV × AH) :=
  match dT P t with
  | .sl e =>
    match zT P e with
    | some z =>
      if l = c ∧ 0 ≤ l ∧ l ≤ 1048576 ∧ 0 < szT P e ∧ byT P e ≤ 1048576 ∧ z.length = szT P e then
        some (.c (.sl H.length 0 (l.toNat * szT P e) l.toNat), H ++ [.vec (szT P e) (List.replicate l.toNat z).flatten])
      else none
    | none => none
  | _ => none
theorem as_makeSlice {l c : Int} : astep P tab (.makeSlice t x y) [.c (.i l), .c (.i c)] H = msA P t l c H := rfl
end

/-! ### arithmetic -/
section
variable {t : Nat} {x y : BitVec 64} {m n : Int} {p q : Bool}
theorem ab_u_add : abin P .add t (.c (.u x)) (.c (.u y)) = some (.c (.u (x + y))) := rfl
theorem ab_u_sub : abin P .sub t (.c (.u x)) (.c (.u y)) = some (.c (.u (x - y))) := rfl
theorem ab_u_mul : abin P .mul t (.c (.u x)) (.c (.u y)) = some (.c (.u (x * y))) := rfl
theorem ab_u_quo : abin P .quo t (.c (.u x)) (.c (.u y)) = if y = 0#64 then none else some (.c (.u (x / y))) := rfl
theorem ab_u_rem : abin P .rem t (.c (.u x)) (.c (.u y)) = if y = 0#64 then none else some (.c (.u (x % y))) := rfl
theorem ab_u_and : abin P .and t (.c (.u x)) (.c (.u y)) = some (.c (.u (x &&& y))) := rfl
theorem ab_u_or : abin P .or t (.c (.u x)) (.c (.u y)) = some (.c (.u (x ||| y))) := rfl
theorem ab_u_xor : abin P .xor t (.c (.u x)) (.c (.u y)) = some (.c (.u (x ^^^ y))) := rfl
theorem ab_u_andNot : abin P .andNot t (.c (.u x)) (.c (.u y)) = some (.c (.u (x &&& ~~~y))) := rfl
theorem ab_u_eql : abin P .eql t (.c (.u x)) (.c (.u y)) = some (.c (.b (decide (x = y)))) := rfl
theorem ab_u_neq : abin P .neq t (.c (.u x)) (.c (.u y)) = some (.c (.b (!decide (x = y)))) := rfl
theorem ab_u_lss : abin P .lss t (.c (.u x)) (.c (.u y)) = some (.c (.b (decide (x < y)))) := rfl
theorem ab_u_leq : abin P .leq t (.c (.u x)) (.c (.u y)) = some (.c (.b (decide (x ≤ y)))) := rfl
theorem ab_u_gtr : abin P .gtr t (.c (.u x)) (.c (.u y)) = some (.c (.b (decide (y < x)))) := rfl
theorem ab_u_geq : abin P .geq t (.c (.u x)) (.c (.u y)) = some (.c (.b (decide (y ≤ x)))) := rfl
theorem ab_u_shl : abin P .shl t (.c (.u x)) (.c (.u y)) = some (.c (.u (x <<< y.toNat))) := rfl
theorem ab_u_shr : abin P .shr t (.c (.u x)) (.c (.u y)) = some (.c (.u (x >>> y.toNat))) := rfl
theorem ab_i_add : abin P .add t (.c (.i m)) (.c (.i n)) = some (.c (.i (w64 (m + n)))) := rfl
theorem ab_i_sub : abin P .sub t (.c (.i m)) (.c (.i n)) = some (.c (.i (w64 (m - n)))) := rfl
theorem ab_i_mul : abin P .mul t (.c (.i m)) (.c (.i n)) = some (.c (.i (w64 (m * n)))) := rfl
theorem ab_i_quo : abin P .quo t (.c (.i m)) (.c (.i n)) = if n = 0 then none else some (.c (.i (w64 (m.tdiv n)))) := rfl
theorem ab_i_rem : abin P .rem t (.c (.i m)) (.c (.i n)) = if n = 0 then none else some (.c (.i (m.tmod n))) := rfl
theorem ab_i_eql : abin P .eql t (.c (.i m)) (.c (.i n)) = some (.c (.b (decide (m = n)))) := rfl
theorem ab_i_neq : abin P .neq t (.c (.i m)) (.c (.i n)) = some (.c (.b (!decide (m = n)))) := rfl
theorem ab_i_lss : abin P .lss t (.c (.i m)) (.c (.i n)) = some (.c (.b (decide (m < n)))) := rfl
theorem ab_i_leq : abin P .leq t (.c (.i m)) (.c (.i n)) = some (.c (.b (decide (m ≤ n)))) := rfl
theorem ab_i_gtr : abin P .gtr t (.c (.i m)) (.c (.i n)) = some (.c (.b (decide (n < m)))) := rfl
theorem ab_i_geq : abin P .geq t (.c (.i m)) (.c (.i n)) = some (.c (.b (decide (n ≤ m)))) := rfl
theorem ab_i_shlu : abin P .shl t (.c (.i m)) (.c (.u y)) = some (.c (.i (w64 (m * 2 ^ min y.toNat 64)))) := rfl
theorem ab_i_shru : abin P .shr t (.c (.i m)) (.c (.u y)) = some (.c (.i (m / 2 ^ min y.toNat 64))) := rfl
theorem ab_b_eql (h : dT P t = .bool) : abin P .eql t (.c (.b p)) (.c (.b q)) = some (.c (.b (p == q))) := by simp [abin, h, binB]
theorem ab_b_neq (h : dT P t = .bool) : abin P .neq t (.c (.b p)) (.c (.b q)) = some (.c (.b (!(p == q)))) := by simp [abin, h, binB]
theorem ab_s_eql {a b : ByteArray} : abin P .eql t (.c (.s a)) (.c (.s b)) = some (.c (.b (decide (a = b)))) := rfl
theorem ab_s_neq {a b : ByteArray} : abin P .neq t (.c (.s a)) (.c (.s b)) = some (.c (.b (!decide (a = b)))) := rfl
theorem ab_g_eql {a b : List Sc} (g : List Tg) (h : (dT P t).agg = true) (hg : tagsT P 12 t = some g) : abin P .eql t (.g a) (.g b) = (csEq g a b).bind (eqU .eql) := by simp [abin, h, hg]
theorem ab_g_neq {a b : List Sc} (g : List Tg) (h : (dT P t).agg = true) (hg : tagsT P 12 t = some g) : abin P .neq t (.g a) (.g b) = (csEq g a b).bind (eqU .neq) := by simp [abin, h, hg]
theorem au_not : aun .not (.c (.b p)) = some (.c (.b (!p))) := rfl
theorem au_neg_i : aun .neg (.c (.i m)) = some (.c (.i (w64 (-m)))) := rfl
theorem au_neg_u : aun .neg (.c (.u x)) = some (.c (.u (-x))) := rfl
theorem au_xor_u : aun .xor (.c (.u x)) = some (.c (.u (~~~x))) := rfl
theorem cv_ii (h : dT P t = .int .i64) : acv P t (.c (.i m)) = some (.c (.i m)) := by simp [acv, h]
theorem cv_ui (h : dT P t = .int .i64) : acv P t (.c (.u x)) = some (.c (.i x.toInt)) := by simp [acv, h]
theorem cv_iu (h : dT P t = .int .u64) : acv P t (.c (.i m)) = some (.c (.u (BitVec.ofInt 64 m))) := by simp [acv, h]
theorem cv_uu (h : dT P t = .int .u64) : acv P t (.c (.u x)) = some (.c (.u x)) := by simp [acv, h]
end
theorem w64_of {n : Int} (h : -9223372036854775808 ≤ n ∧ n ≤ 9223372036854775807) : w64 n = n := w64_id h.1 h.2
theorem ite_b {c : Prop} [Decidable c] {p q : Bool} : (if c then AV.c (.b p) else AV.c (.b q)) = AV.c (.b (if c then p else q)) := by split <;> rfl
theorem ev_i8 {n : Int} (h : -128 ≤ n ∧ n ≤ 127) : ev fr (.const (.int .i8 n)) = .c (.k .i8 n) := by
  have h2 : IntKind.i8.min ≤ n ∧ n ≤ IntKind.i8.max := h
  simp only [ev, absC, absS, h2, and_self, if_true]
theorem cv_u_i8 {d : Nat} {x : BitVec 64} (h : dT P d = .int .i8) : acv P d (.c (.u x)) = some (.c (.k .i8 (IntKind.i8.wrap x.toNat))) := by simp only [acv, h]
theorem cv_i_i8 {d : Nat} {n : Int} (h : dT P d = .int .i8) : acv P d (.c (.i n)) = some (.c (.k .i8 (IntKind.i8.wrap n))) := by simp only [acv, h]
theorem cv_k_i8 {d : Nat} {k : IntKind} {n : Int} (h : dT P d = .int .i8) : acv P d (.c (.k k n)) = some (.c (.k .i8 (IntKind.i8.wrap n))) := by simp only [acv, h]
theorem ev_i16 {n : Int} (h : -32768 ≤ n ∧ n ≤ 32767) : ev fr (.const (.int .i16 n)) = .c (.k .i16 n) := by
  have h2 : IntKind.i16.min ≤ n ∧ n ≤ IntKind.i16.max := h
  simp only [ev, absC, absS, h2, and_self, if_true]
theorem cv_u_i16 {d : Nat} {x : BitVec 64} (h : dT P d = .int .i16) : acv P d (.c (.u x)) = some (.c (.k .i16 (IntKind.i16.wrap x.toNat))) := by simp only [acv, h]
theorem cv_i_i16 {d : Nat} {n : Int} (h : dT P d = .int .i16) : acv P d (.c (.i n)) = some (.c (.k .i16 (IntKind.i16.wrap n))) := by simp only [acv, h]
theorem cv_k_i16 {d : Nat} {k : IntKind} {n : Int} (h : dT P d = .int .i16) : acv P d (.c (.k k n)) = some (.c (.k .i16 (IntKind.i16.wrap n))) := by simp only [acv, h]
theorem ev_i32 {n : Int} (h : -2147483648 ≤ n ∧ n ≤ 2147483647) : ev fr (.const (.int .i32 n)) = .c (.k .i32 n) := by
  have h2 : IntKind.i32.min ≤ n ∧ n ≤ IntKind.i32.max := h
  simp only [ev, absC, absS, h2, and_self, if_true]
theorem cv_u_i32 {d : Nat} {x : BitVec 64} (h : dT P d = .int .i32) : acv P d (.c (.u x)) = some (.c (.k .i32 (IntKind.i32.wrap x.toNat))) := by simp only [acv, h]
theorem cv_i_i32 {d : Nat} {n : Int} (h : dT P d = .int .i32) : acv P d (.c (.i n)) = some (.c (.k .i32 (IntKind.i32.wrap n))) := by simp only [acv, h]
theorem cv_k_i32 {d : Nat} {k : IntKind} {n : Int} (h : dT P d = .int .i32) : acv P d (.c (.k k n)) = some (.c (.k .i32 (IntKind.i32.wrap n))) := by simp only [acv, h]
theorem ev_u8 {n : Int} (h : 0 ≤ n ∧ n ≤ 255) : ev fr (.const (.int .u8 n)) = .c (.k .u8 n) := by
  have h2 : IntKind.u8.min ≤ n ∧ n ≤ IntKind.u8.max := h
  simp only [ev, absC, absS, h2, and_self, if_true]
theorem cv_u_u8 {d : Nat} {x : BitVec 64} (h : dT P d = .int .u8) : acv P d (.c (.u x)) = some (.c (.k .u8 (IntKind.u8.wrap x.toNat))) := by simp only [acv, h]
theorem cv_i_u8 {d : Nat} {n : Int} (h : dT P d = .int .u8) : acv P d (.c (.i n)) = some (.c (.k .u8 (IntKind.u8.wrap n))) := by simp only [acv, h]
theorem cv_k_u8 {d : Nat} {k : IntKind} {n : Int} (h : dT P d = .int .u8) : acv P d (.c (.k k n)) = some (.c (.k .u8 (IntKind.u8.wrap n))) := by simp only [acv, h]
theorem ev_u16 {n : Int} (h : 0 ≤ n ∧ n ≤ 65535) : ev fr (.const (.int .u16 n)) = .c (.k .u16 n) := by
  have h2 : IntKind.u16.min ≤ n ∧ n ≤ IntKind.u16.max := h
  simp only [ev, absC, absS, h2, and_self, if_true]
theorem cv_u_u16 {d : Nat} {x : BitVec 64} (h : dT P d = .int .u16) : acv P d (.c (.u x)) = some (.c (.k .u16 (IntKind.u16.wrap x.toNat))) := by simp only [acv, h]
theorem cv_i_u16 {d : Nat} {n : Int} (h : dT P d = .int .u16) : acv P d (.c (.i n)) = some (.c (.k .u16 (IntKind.u16.wrap n))) := by simp only [acv, h]
theorem cv_k_u16 {d : Nat} {k : IntKind} {n : Int} (h : dT P d = .int .u16) : acv P d (.c (.k k n)) = some (.c (.k .u16 (IntKind.u16.wrap n))) := by simp only [acv, h]
theorem ev_u32 {n : Int} (h : 0 ≤ n ∧ n ≤ 4294967295) : ev fr (.const (.int .u32 n)) = .c (.k .u32 n) := by
  have h2 : IntKind.u32.min ≤ n ∧ n ≤ IntKind.u32.max := h
  simp only [ev, absC, absS, h2, and_self, if_true]
theorem cv_u_u32 {d : Nat} {x : BitVec 64} (h : dT P d = .int .u32) : acv P d (.c (.u x)) = some (.c (.k .u32 (IntKind.u32.wrap x.toNat))) := by simp only [acv, h]
theorem cv_i_u32 {d : Nat} {n : Int} (h : dT P d = .int .u32) : acv P d (.c (.i n)) = some (.c (.k .u32 (IntKind.u32.wrap n))) := by simp only [acv, h]
theorem cv_k_u32 {d : Nat} {k : IntKind} {n : Int} (h : dT P d = .int .u32) : acv P d (.c (.k k n)) = some (.c (.k .u32 (IntKind.u32.wrap n))) := by simp only [acv, h]
theorem cv_k_i64 {d : Nat} {k : IntKind} {n : Int} (h : dT P d = .int .i64) : acv P d (.c (.k k n)) = some (.c (.i n)) := by simp only [acv, h]
theorem cv_k_u64 {d : Nat} {k : IntKind} {n : Int} (h : dT P d = .int .u64) : acv P d (.c (.k k n)) = some (.c (.u (BitVec.ofInt 64 n))) := by simp only [acv, h]
theorem ab_k_add {t : Nat} {k : IntKind} {x y : Int} : abin P .add t (.c (.k k x)) (.c (.k k y)) = some (.c (.k k (k.wrap (x + y)))) := by simp only [abin, if_true]; rfl
theorem ab_k_sub {t : Nat} {k : IntKind} {x y : Int} : abin P .sub t (.c (.k k x)) (.c (.k k y)) = some (.c (.k k (k.wrap (x - y)))) := by simp only [abin, if_true]; rfl
theorem ab_k_mul {t : Nat} {k : IntKind} {x y : Int} : abin P .mul t (.c (.k k x)) (.c (.k k y)) = some (.c (.k k (k.wrap (x * y)))) := by simp only [abin, if_true]; rfl
theorem ab_k_and {t : Nat} {k : IntKind} {x y : Int} : abin P .and t (.c (.k k x)) (.c (.k k y)) = some (.c (.k k (k.wrap ((BitVec.ofInt k.bits x &&& BitVec.ofInt k.bits y).toNat)))) := by simp only [abin, if_true]; rfl
theorem ab_k_or {t : Nat} {k : IntKind} {x y : Int} : abin P .or t (.c (.k k x)) (.c (.k k y)) = some (.c (.k k (k.wrap ((BitVec.ofInt k.bits x ||| BitVec.ofInt k.bits y).toNat)))) := by simp only [abin, if_true]; rfl
theorem ab_k_xor {t : Nat} {k : IntKind} {x y : Int} : abin P .xor t (.c (.k k x)) (.c (.k k y)) = some (.c (.k k (k.wrap ((BitVec.ofInt k.bits x ^^^ BitVec.ofInt k.bits y).toNat)))) := by simp only [abin, if_true]; rfl
theorem ab_k_andNot {t : Nat} {k : IntKind} {x y : Int} : abin P .andNot t (.c (.k k x)) (.c (.k k y)) = some (.c (.k k (k.wrap ((BitVec.ofInt k.bits x &&& ~~~(BitVec.ofInt k.bits y)).toNat)))) := by simp only [abin, if_true]; rfl
theorem ab_k_eql {t : Nat} {k : IntKind} {x y : Int} : abin P .eql t (.c (.k k x)) (.c (.k k y)) = some (.c (.b (decide (x = y)))) := by simp only [abin, if_true]; rfl
theorem ab_k_neq {t : Nat} {k : IntKind} {x y : Int} : abin P .neq t (.c (.k k x)) (.c (.k k y)) = some (.c (.b (!decide (x = y)))) := by simp only [abin, if_true]; rfl
theorem ab_k_lss {t : Nat} {k : IntKind} {x y : Int} : abin P .lss t (.c (.k k x)) (.c (.k k y)) = some (.c (.b (decide (x < y)))) := by simp only [abin, if_true]; rfl
theorem ab_k_leq {t : Nat} {k : IntKind} {x y : Int} : abin P .leq t (.c (.k k x)) (.c (.k k y)) = some (.c (.b (decide (x ≤ y)))) := by simp only [abin, if_true]; rfl
theorem ab_k_gtr {t : Nat} {k : IntKind} {x y : Int} : abin P .gtr t (.c (.k k x)) (.c (.k k y)) = some (.c (.b (decide (y < x)))) := by simp only [abin, if_true]; rfl
theorem ab_k_geq {t : Nat} {k : IntKind} {x y : Int} : abin P .geq t (.c (.k k x)) (.c (.k k y)) = some (.c (.b (decide (y ≤ x)))) := by simp only [abin, if_true]; rfl
theorem ab_k_shlu {t : Nat} {k : IntKind} {x : Int} {y : BitVec 64} : abin P .shl t (.c (.k k x)) (.c (.u y)) = some (.c (.k k (k.wrap (x * 2 ^ (min y.toNat k.bits))))) := rfl
theorem ab_k_shru {t : Nat} {k : IntKind} {x : Int} {y : BitVec 64} : abin P .shr t (.c (.k k x)) (.c (.u y)) = some (.c (.k k (x / 2 ^ (min y.toNat k.bits)))) := rfl

end Go.Am

/- Regions that draw their order: what is done to objects, in any order. -/
namespace Go.Am
variable {P : Program} {tab : Tab} {N : Nat}

/-! ### objects, cell by cell -/
def AObj.hd : AObj → Nat × Nat × Nat
  | .own cs => (0, 0, cs.length)
  | .vec z cs => (1, z, cs.length)
  | .view cs => (2, 0, cs.length)
  | .dead => (3, 0, 0)
theorem AObj.ext {o p : AObj} (h : o.hd = p.hd) (hc : ∀ k, o.cells.getD k .any = p.cells.getD k .any) : o = p := by
  have key : ∀ (l m : List Sc), l.length = m.length → (∀ k, l.getD k .any = m.getD k .any) → l = m := by
    intro l m hl hk
    apply List.ext_getElem hl
    intro i h1 h2
    have := hk i
    simpa [List.getD_eq_getElem?_getD, h1, h2] using this
  cases o <;> cases p <;> simp [AObj.hd] at h <;> simp only [AObj.cells] at hc
  · rw [key _ _ h hc]
  · rw [h.1, key _ _ h.2 hc]
  · rw [key _ _ h hc]
  · rfl
theorem AObj.hd_row {o p : AObj} (h : o.hd = p.hd) : o.row = p.row ∧ o.cells.length = p.cells.length ∧ o.owned = p.owned ∧ o.live = p.live := by
  cases o <;> cases p <;> simp [AObj.hd] at h <;> simp_all [AObj.row, AObj.cells, AObj.owned, AObj.live]

def ov (off n : Nat) (src cs : List Sc) : List Sc := (List.range cs.length).map fun k => if off ≤ k ∧ k < off + n then src.getD k .any else cs.getD k .any
def AObj.on (f : List Sc → List Sc) : AObj → AObj
  | .own cs => .own (f cs)
  | .vec z cs => .vec z (f cs)
  | .view cs => .view (f cs)
  | .dead => .dead
theorem ov_len {off n : Nat} {src cs : List Sc} : (ov off n src cs).length = cs.length := by simp [ov]
theorem ov_get {off n k : Nat} {src cs : List Sc} : (ov off n src cs).getD k .any = if k < cs.length ∧ off ≤ k ∧ k < off + n then src.getD k .any else cs.getD k .any := by
  rw [List.getD_eq_getElem?_getD]
  simp only [ov, List.getElem?_map]
  rcases Nat.lt_or_ge k cs.length with h | h
  · simp [List.getElem?_range h, h]
  · have h' : ¬ k < cs.length := by omega
    rw [List.getElem?_eq_none (by simpa using h)]
    simp [h', List.getD_eq_getElem?_getD, List.getElem?_eq_none h]
theorem on_hd {o : AObj} {off n : Nat} {src : List Sc} : (o.on (ov off n src)).hd = o.hd := by
  cases o <;> simp [AObj.on, AObj.hd, ov_len]
theorem on_get {o : AObj} {off n k : Nat} {src : List Sc} : (o.on (ov off n src)).cells.getD k .any = if k < o.cells.length ∧ off ≤ k ∧ k < off + n then src.getD k .any else o.cells.getD k .any := by
  cases o
  · exact ov_get
  · exact ov_get
  · exact ov_get
  · simp [AObj.on, AObj.cells]
theorem wr_len {cs l : List Sc} {off : Nat} (h : off + l.length ≤ cs.length) : (wr cs off l).length = cs.length := by simp [wr]; omega
theorem wr_get {cs l : List Sc} {off k : Nat} (h : off + l.length ≤ cs.length) : (wr cs off l).getD k .any = if off ≤ k ∧ k < off + l.length then l.getD (k - off) .any else cs.getD k .any := by
  simp only [List.getD_eq_getElem?_getD, wr, List.append_assoc]
  rcases Nat.lt_or_ge k off with h1 | h1
  · rw [List.getElem?_append_left (by simp; omega), List.getElem?_take_of_lt h1, if_neg (by omega)]
  · rw [List.getElem?_append_right (by simp; omega)]
    have e1 : k - (cs.take off).length = k - off := by simp; omega
    rw [e1]
    rcases Nat.lt_or_ge k (off + l.length) with h2 | h2
    · rw [List.getElem?_append_left (by omega), if_pos ⟨h1, h2⟩]
    · rw [List.getElem?_append_right (by omega), if_neg (by omega), List.getElem?_drop]
      congr 2; omega

/-- what an operation does to one object -/
noncomputable def gE (t : Tc) (H0 H' : AH) (p : Nat) (cur : AObj) : AObj :=
  match t with
  | .mk => if p = H0.length then hg H' p else cur
  | .st id off n => if p = id then cur.on (ov off n (hg H' id).cells) else cur
  | .bar => hg H' p
  | .cl A B => @ite _ (hg B p = hg A p ∧ (hg A p).live = true) (Classical.propDecidable _) cur (hg B p)
  | _ => cur
def aff (t : Tc) (H0 : AH) (p a n : Nat) : Prop :=
  match t with
  | .mk => p = H0.length
  | .st id off m => p = id ∧ off < a + n ∧ a < off + m
  | .bar => True
  | .cl A B => ¬ (hg B p = hg A p ∧ (hg A p).live = true)
  | _ => False
def Tc.quiet : Tc → Bool
  | .no | .ld _ _ _ | .rd => true
  | _ => false
theorem gE_quiet {t : Tc} {H0 H' : AH} {p : Nat} {cur : AObj} (h : t.quiet = true) : gE t H0 H' p cur = cur := by
  cases t <;> simp [Tc.quiet] at h <;> rfl
theorem gE_keep {t : Tc} {H0 H' : AH} {p a n : Nat} {cur : AObj} (h : ¬ aff t H0 p a n) : (gE t H0 H' p cur).hd = cur.hd ∧ ∀ k, a ≤ k → k < a + n → (gE t H0 H' p cur).cells.getD k .any = cur.cells.getD k .any := by
  cases t with
  | mk => simp only [aff] at h; simp [gE, h]
  | st id off m =>
    simp only [aff] at h
    simp only [gE]
    split
    · rename_i e
      refine ⟨on_hd, fun k h1 h2 => ?_⟩
      rw [on_get, if_neg (fun hh => h ⟨e, by omega, by omega⟩)]
    · exact ⟨rfl, fun _ _ _ => rfl⟩
  | bar => simp [aff] at h
  | cl A B =>
    simp only [aff, Classical.not_not] at h
    simp only [gE]
    rw [if_pos h]
    exact ⟨rfl, fun _ _ _ => rfl⟩
  | _ => exact ⟨rfl, fun _ _ _ => rfl⟩
theorem gE_cong {t : Tc} {H0 H' : AH} {p a n : Nat} {c d : AObj} (h : c.hd = d.hd) (hk : ∀ k, a ≤ k → k < a + n → c.cells.getD k .any = d.cells.getD k .any) :
    (gE t H0 H' p c).hd = (gE t H0 H' p d).hd ∧ ∀ k, a ≤ k → k < a + n → (gE t H0 H' p c).cells.getD k .any = (gE t H0 H' p d).cells.getD k .any := by
  cases t with
  | mk => simp only [gE]; split <;> simp_all
  | st id off m =>
    simp only [gE]
    split
    · refine ⟨by rw [on_hd, on_hd, h], fun k h1 h2 => ?_⟩
      rw [on_get, on_get, (AObj.hd_row h).2.1, hk k h1 h2]
    · exact ⟨h, hk⟩
  | bar => simp [gE]
  | cl A B =>
    simp only [gE]
    by_cases e : hg B p = hg A p ∧ (hg A p).live = true
    · rw [if_pos e, if_pos e]; exact ⟨h, hk⟩
    · rw [if_neg e, if_neg e]; exact ⟨rfl, fun _ _ _ => rfl⟩
  | _ => exact ⟨h, hk⟩
theorem gE_comm {t u : Tc} {A A' B B' : AH} {p : Nat} {c : AObj} (h : ¬ clash t u) (h1 : t = .mk → u = .mk → A.length ≠ B.length) (h2 : ∀ id a n, t = .st id a n → u = .mk → id ≠ B.length)
    (h3 : ∀ id a n, t = .mk → u = .st id a n → id ≠ A.length) : gE t A A' p (gE u B B' p c) = gE u B B' p (gE t A A' p c) := by
  cases ht : t.quiet with
  | true => rw [gE_quiet ht, gE_quiet ht]
  | false =>
    cases hu : u.quiet with
    | true => rw [gE_quiet hu, gE_quiet hu]
    | false =>
      cases t <;> simp [Tc.quiet] at ht <;> cases u <;> simp [Tc.quiet] at hu <;> simp only [clash, not_true_eq_false] at h
      · rename_i id a n id' a' n'
        simp only [gE]
        by_cases e : p = id
        · by_cases e' : p = id'
          · simp only [e, e', if_true]
            subst e; subst e'
            simp only [if_true]
            refine AObj.ext (by simp only [on_hd]) fun k => ?_
            simp only [on_get, (AObj.hd_row (on_hd (o := c))).2.1]
            by_cases c1 : k < c.cells.length ∧ a ≤ k ∧ k < a + n
            · rw [if_pos c1, if_neg (fun c2 => h ⟨rfl, by omega, by omega⟩), if_pos c1]
            · rw [if_neg c1]
              split <;> simp [c1]
          · have e2 : id ≠ id' := fun e2 => e' (e.trans e2)
            simp [e, e2]
        · simp [e]
      · rename_i id a n
        have := h2 id a n rfl rfl
        simp only [gE]
        by_cases e : p = id
        · subst e; simp [this]
        · simp [e]
      · rename_i id a n
        have := h3 id a n rfl rfl
        simp only [gE]
        by_cases e : p = id
        · subst e; simp [this]
        · simp [e]
      · have := h1 rfl rfl
        simp only [gE]
        by_cases e : p = A.length
        · subst e; simp [this]
        · simp [e]

/-- the objects behind some of a region's operations -/
noncomputable def val (ts : Nat → Tc) (Hs : Nat → AH) (S : Nat → Bool) (p : Nat) : Nat → AObj
  | 0 => hg (Hs 0) p
  | m + 1 => if S m then gE (ts m) (Hs m) (Hs (m + 1)) p (val ts Hs S p m) else val ts Hs S p m

section vals
variable {ts : Nat → Tc} {Hs : Nat → AH} {S T : Nat → Bool} {p n : Nat}
theorem val_agree {a b : Nat} : ∀ M, (∀ m, m < M → S m ≠ T m → ¬ aff (ts m) (Hs m) p a b) →
    (val ts Hs S p M).hd = (val ts Hs T p M).hd ∧ ∀ k, a ≤ k → k < a + b → (val ts Hs S p M).cells.getD k .any = (val ts Hs T p M).cells.getD k .any := by
  intro M
  induction M with
  | zero => intro _; exact ⟨rfl, fun _ _ _ => rfl⟩
  | succ M ih =>
    intro h
    obtain ⟨i1, i2⟩ := ih fun m hm => h m (by omega)
    simp only [val]
    cases hS : S M <;> cases hT : T M
    · exact ⟨i1, i2⟩
    · obtain ⟨k1, k2⟩ := gE_keep (H' := Hs (M + 1)) (cur := val ts Hs T p M) (h M (by omega) (by rw [hS, hT]; simp))
      exact ⟨by simp [k1, i1], fun k g1 g2 => by simp only [Bool.false_eq_true, if_false, if_true]; rw [k2 k g1 g2, i2 k g1 g2]⟩
    · obtain ⟨k1, k2⟩ := gE_keep (H' := Hs (M + 1)) (cur := val ts Hs S p M) (h M (by omega) (by rw [hS, hT]; simp))
      exact ⟨by simp [k1, i1], fun k g1 g2 => by simp only [Bool.false_eq_true, if_false, if_true]; rw [k2 k g1 g2, i2 k g1 g2]⟩
    · simp only [if_true]; exact gE_cong i1 i2
theorem val_eq : ∀ M, (∀ m, m < M → S m ≠ T m → (ts m).quiet = true) → val ts Hs S p M = val ts Hs T p M := by
  intro M
  induction M with
  | zero => intro _; rfl
  | succ M ih =>
    intro h
    have := ih fun m hm => h m (by omega)
    simp only [val]
    cases hS : S M <;> cases hT : T M <;> simp only [this, Bool.false_eq_true, if_false, if_true]
    · rw [gE_quiet (h M (by omega) (by rw [hS, hT]; simp))]
    · rw [gE_quiet (h M (by omega) (by rw [hS, hT]; simp))]
/-- one more operation, as if it were the last one -/
theorem val_put {i : Nat} (hi : S i = false) (hT : ∀ m, T m = (S m || decide (m = i))) : ∀ M, i < M →
    (∀ m, i < m → m < M → S m = true → ∀ c, gE (ts m) (Hs m) (Hs (m + 1)) p (gE (ts i) (Hs i) (Hs (i + 1)) p c) = gE (ts i) (Hs i) (Hs (i + 1)) p (gE (ts m) (Hs m) (Hs (m + 1)) p c)) →
    val ts Hs T p M = gE (ts i) (Hs i) (Hs (i + 1)) p (val ts Hs S p M) := by
  have below : ∀ m, m ≤ i → val ts Hs T p m = val ts Hs S p m := by
    intro m
    induction m with
    | zero => intro _; rfl
    | succ m ih =>
      intro h
      have e : T m = S m := by rw [hT]; simp; omega
      simp only [val, ih (by omega), e]
  intro M
  induction M with
  | zero => intro h; omega
  | succ M ih =>
    intro hM hc
    rcases Nat.lt_or_ge i M with h | h
    · have := ih h fun m h1 h2 => hc m h1 (by omega)
      have e : T M = S M := by rw [hT]; simp; omega
      simp only [val, e, this]
      cases hS : S M
      · simp
      · simp only [if_true]; exact hc M h (by omega) hS _
    · obtain rfl : M = i := by omega
      have e : T M = true := by rw [hT]; simp
      simp only [val, e, hi, if_true, below M (Nat.le_refl _)]
      simp
end vals

theorem hg_ext {H H' : AH} (hl : H.length = H'.length) (h : ∀ p, hg H p = hg H' p) : H = H' := by
  apply List.ext_getElem hl
  intro i h1 h2
  have := h i
  simpa [hg, List.getD_eq_getElem?_getD, h1, h2] using this

end Go.Am

/- Steps of operations where some objects are not yet made. -/
namespace Go.Am
variable {P : Program} {tab : Tab} {N : Nat} {w0 : World} {M : Fx}

theorem HR.cast {ρ : Ro} {w : World} {H H' : AH} (h : HR ρ w H) (hg' : ∀ p, hg H' p = hg H p) (hf : ∀ p, H'.length ≤ p → ρ p = none) : HR ρ w H' :=
  ⟨fun i => by rw [hg']; exact h.obj i, fun i j Li Lj h1 h2 h3 h4 h5 => by rw [hg'] at h2 h5; exact h.sep i j Li Lj h1 h2 h3 h4 h5, hf⟩
theorem St.cast {ρ : Ro} {fr : Fr} {H H' : AH} {a : Act} {w : World} (h : St N w0 M ρ fr H a w) (hg' : ∀ p, hg H' p = hg H p) (hf : ∀ p, H'.length ≤ p → ρ p = none) : St N w0 M ρ fr H' a w :=
  ⟨h.fr, h.sz, h.df, h.hr.cast hg' hf, h.kp, fun i L h1 => by rw [hg'] at h1; exact h.ow i L h1, h.st⟩

/-- A new block, known whole, for an object that is not yet there. -/
theorem HR.allocAt {ρ : Ro} {w : World} {H : AH} (h : HR ρ w H) {l : List Sc} {c : List Value} (hl : L2 (SRel ρ) l c) (t : Nat) (o : AObj) (L : Loc) (id : Nat) (hid : id < H.length) (hd : hg H id = .dead) (hr : ρ id = none)
    (hb : L.blk = w.heap.size) (hoff : L.off = 0) (hnil : L.nil = false)
    (hrow : L.row = o.row) (ho : (o = .own l ∧ L.vec = false) ∨ (∃ sz, o = .vec sz l ∧ L.vec = true ∧ 0 < sz ∧ L.cap * sz = c.length)) :
    HR (upd ρ id L) (w.alloc (.cells c.toArray t)) (H.set id o) ∧ Stab ρ (upd ρ id L) := by
  have hst : Stab ρ (upd ρ id L) := by
    intro i Li hi
    have : i ≠ id := by rintro rfl; rw [hr] at hi; simp at hi
    exact ⟨Li, by rw [upd_ne _ _ this, hi], .inl rfl⟩
  have hl' : L2 (SRel (upd ρ id L)) l c := hl.mono fun _ _ h => h.mono hst
  refine ⟨⟨?_, ?_, ?_⟩, hst⟩
  · intro i
    rw [hg_set _ _ _ _ hid]
    split
    · subst_vars
      rcases ho with ⟨rfl, hv⟩ | ⟨sz, rfl, hv, hsz, hcap⟩
      · exact ⟨L, c, t, upd_same _ _ _, hoff, hrow, hnil, hv, by rw [hb]; exact alloc_new _ _, hl'⟩
      · refine ⟨L, upd_same _ _ _, hoff, hrow, hv, hsz, ?_⟩
        rw [if_neg (by simp [hnil])]
        exact ⟨c, [], t, by rw [hb]; simpa using alloc_new w _, by simpa using hcap, hl'⟩
    · rename_i hne
      refine (h.obj i).keep hst (upd_ne _ _ hne) (fun Li hi hn hlv => ?_) (by simp)
      exact alloc_block _ _ _ ((h.obj i).blk_lt hi hn hlv)
  · intro i j Li Lj hij hio hLi hni hjl hLj hnj
    rw [hg_set _ _ _ _ hid] at hio hjl
    by_cases h1 : i = id
    · subst h1
      rw [upd_same] at hLi; simp at hLi; subst hLi
      have h2 : j ≠ i := fun e => hij e.symm
      rw [if_neg h2] at hjl
      rw [upd_ne _ _ h2] at hLj
      have := (h.obj j).blk_lt hLj hnj hjl
      omega
    · rw [if_neg h1] at hio
      rw [upd_ne _ _ h1] at hLi
      by_cases h2 : j = id
      · subst h2
        rw [upd_same] at hLj; simp at hLj; subst hLj
        have := (h.obj i).blk_lt hLi hni (AObj.owned_live hio)
        omega
      · rw [if_neg h2] at hjl
        rw [upd_ne _ _ h2] at hLj
        exact h.sep i j Li Lj hij hio hLi hni hjl hLj hnj
  · intro i hi
    simp at hi
    rw [upd_ne _ _ (by omega)]
    exact h.fresh i (by omega)

theorem Eff.allocAt {ρ : Ro} {w : World} {H : AH} (h : HR ρ w H) {l : List Sc} {c : List Value} (hl : L2 (SRel ρ) l c) (t : Nat) (o : AObj) (L : Loc) (id : Nat) (hid : id < H.length) (hd : hg H id = .dead) (hr : ρ id = none)
    (hb : L.blk = w.heap.size) (hoff : L.off = 0) (hnil : L.nil = false)
    (hrow : L.row = o.row) (ho : (o = .own l ∧ L.vec = false) ∨ (∃ sz, o = .vec sz l ∧ L.vec = true ∧ 0 < sz ∧ L.cap * sz = c.length)) :
    Eff ρ w H (w.alloc (.cells c.toArray t)) (upd ρ id L) (H.set id o) := by
  obtain ⟨h1, h2⟩ := h.allocAt hl t o L id hid hd hr hb hoff hnil hrow ho
  refine ⟨h1, h2, fun w0 M hk hm => ⟨hk.alloc _ _, fun i Li hio hLi hni => ?_⟩, by simp, fun i Li _ hLi => ?_⟩
  · by_cases e : i = id
    · subst e; rw [upd_same] at hLi; simp at hLi; subst hLi
      exact .inr (by rw [hb]; exact hk.size)
    · rw [upd_ne _ _ e] at hLi
      rw [hg_set _ _ _ _ hid, if_neg e] at hio
      exact hm i Li hio hLi hni
  · have : i ≠ id := by rintro rfl; rw [hr] at hLi; simp at hLi
    rw [upd_ne _ _ this, hLi]

/-- where an object is made: at one's own number -/
structure Spot (ρ : Ro) (w : World) (H : AH) (id : Nat) : Prop where
  hr : HR ρ w H
  lt : id < H.length
  dead : hg H id = .dead
  none : ρ id = none

theorem own_at {ρ : Ro} {w : World} {H : AH} {id : Nat} (h : Spot ρ w H id) {l : List Sc} {c : List Value} (hl : L2 (SRel ρ) l c) (t : Nat) :
    Eff ρ w H (w.alloc (.cells c.toArray t)) (upd ρ id ⟨w.heap.size, 0, 0, 0, false, false⟩) (H.set id (.own l)) ∧
      VRel (upd ρ id ⟨w.heap.size, 0, 0, 0, false, false⟩) (.c (.p id 0 0)) (.pointer (some ⟨w.heap.size, 0, none⟩)) :=
  ⟨Eff.allocAt h.hr hl t _ _ id h.lt h.dead h.none rfl rfl rfl rfl (.inl ⟨rfl, rfl⟩), ⟨_, _, upd_same _ _ _, rfl, Nat.le_refl _, fun _ => ⟨rfl, by simp, rfl⟩⟩⟩

theorem vec_at {ρ : Ro} {w : World} {H : AH} {id : Nat} (h : Spot ρ w H id) {l : List Sc} {c : List Value} (hl : L2 (SRel ρ) l c) (t sz n : Nat) (hsz : 0 < sz) (hn : n * sz = c.length) (hn2 : n ≤ 9223372036854775807) :
    Eff ρ w H (w.alloc (.cells c.toArray t)) (upd ρ id ⟨w.heap.size, 0, n, l.length, false, true⟩) (H.set id (.vec sz l)) ∧
      VRel (upd ρ id ⟨w.heap.size, 0, n, l.length, false, true⟩) (.c (.sl id 0 l.length n)) (.slice (some ⟨w.heap.size, 0, none⟩) n n) := by
  refine ⟨Eff.allocAt h.hr hl t _ _ id h.lt h.dead h.none rfl rfl rfl rfl (.inr ⟨sz, rfl, rfl, hsz, hn⟩), _, _, _, upd_same _ _ _, rfl, by simp, Nat.le_refl _, hn2, Nat.le_refl _, fun _ => ?_⟩
  rw [if_neg (by simp)]
  refine ⟨_, rfl, fun _ => rfl, fun _ _ => rfl, fun h0 _ => ?_⟩
  show 0 < l.length
  rw [hl.length, ← hn]; exact Nat.mul_pos h0 hsz

/-- an operation that makes an object, anywhere -/
theorem mk_run {ρ : Ro} {o : Oper} {a : Act} {H0 H H' : AH} {vs : List AV} {v : AV} {w : World} (hk : tcof P tab o.op vs = .mk) (h : eop P o.op vs H0 = some (v, H'))
    (hv : L2 (VRel ρ) vs ((opnds o.op).map a.eval)) (hH : Spot ρ w H H0.length) :
    ∃ ob, H' = H0 ++ [ob] ∧ ∃ w' L, Eff ρ w H w' (upd ρ H0.length L) (H.set H0.length ob) ∧ ∃ vc, (execOp a.eval o).run P w = .ok (.value vc) w' ∧ VRel (upd ρ H0.length L) v vc := by
  obtain ⟨dst, op, ty, pos, after, guard⟩ := o
  simp only at h hv hk
  have fin : ∀ (s : Sem Value) (ob : AObj), (∃ w' L vc, Eff ρ w H w' (upd ρ H0.length L) (H.set H0.length ob) ∧ s.run P w = .ok vc w' ∧ VRel (upd ρ H0.length L) v vc) →
      ∃ w' L, Eff ρ w H w' (upd ρ H0.length L) (H.set H0.length ob) ∧ ∃ vc, (do pure (.value (← s)) : Sem Next).run P w = .ok (.value vc) w' ∧ VRel (upd ρ H0.length L) v vc := by
    rintro s ob ⟨w', L, vc, h1, h2, h3⟩
    exact ⟨w', L, h1, vc, by simp [h2], h3⟩
  unfold eop at h
  split at h
  · -- alloc
    rename_i t
    split at h <;> simp at h
    rename_i z hz
    obtain ⟨rfl, rfl⟩ := h
    obtain ⟨zv, zc, h1, h2, h3⟩ := zero_rel (ρ := ρ) hz w
    obtain ⟨h4, h5⟩ := own_at hH h3 t
    refine ⟨_, rfl, fin _ _ ⟨_, _, _, h4, ?_, h5⟩⟩
    simp only [Instr.alloc, Sem.run_bind, h1, Result.andThen_ok, newVar, newRow, h2, run_newObj, Sem.run_pure]; rfl
  · -- box
    rename_i t x ax
    split at h <;> simp at h
    rename_i l hc
    obtain ⟨rfl, rfl⟩ := h
    obtain ⟨y, hy, h1⟩ := hv.one
    simp only [opnds, List.map_cons, List.map_nil, List.cons.injEq, and_true] at hy; subst hy
    obtain ⟨cs, h2, h3, _⟩ := h1.cells hc
    obtain ⟨h4, h5⟩ := own_at hH h3 t
    refine ⟨_, rfl, fin _ _ ⟨_, _, _, h4, ?_, h5⟩⟩
    simp only [Instr.box, newVar, newRow, h2, Sem.run_bind, run_newObj, Result.andThen_ok, Sem.run_pure]; rfl
  · -- buildSlice
    rename_i t len ps
    split at h <;> try (simp at h; done)
    rename_i e hd
    have hu := und_sl hd
    split at h <;> try (simp at h; done)
    rename_i z hz
    split at h
    · rename_i hc
      obtain ⟨hsz, hl, hmax, hzl⟩ := hc
      split at h <;> simp at h
      rename_i cs hf
      obtain ⟨rfl, rfl⟩ := h
      obtain ⟨zv, zc, h1, h2, h3⟩ := zero_rel (ρ := ρ) hz w
      obtain ⟨rc, h4, h5⟩ := fill_rel _ _ _ (zip_ps ps hv) _ _ _ (h3.rep len) hf
      have hlen : len * szT P e = rc.length := by
        rw [← h5.length, fillA_len _ _ _ _ hf]; simp [hzl]
      obtain ⟨h6, h7⟩ := vec_at hH h5 e (szT P e) len hsz hlen (by have : len ≤ len * szT P e := Nat.le_mul_of_pos_right _ hsz; omega)
      refine ⟨_, rfl, fin _ _ ⟨_, _, _, h6, ?_, h7⟩⟩
      have hzc : zc.length = szT P e := by rw [← h3.length, hzl]
      have hne : ¬ len * szT P e = 0 := by have := Nat.mul_pos hl hsz; omega
      have hne2 : ¬ len * szT P e > 2 ^ 24 := by omega
      simp only [Instr.buildSlice, Sem.run_bind, run_underlying hu, Result.andThen_ok, run_sizeOf' hsz, hne2, if_false, hne, Sem.run_pure, h1, h2, run_fill_range len _ hzc]
      simp only [Array.toList_map] at h4 ⊢
      rw [h4]
      simp only [newRow, Sem.run_bind, run_newObj, Result.andThen_ok, Sem.run_pure]; rfl
    · split at h <;> simp at h
      rename_i hc
      obtain ⟨hsz, rfl, hps⟩ := hc
      obtain ⟨rfl, rfl⟩ := h
      obtain rfl : ps = #[] := Array.eq_empty_of_size_eq_zero hps
      obtain ⟨h6, h7⟩ := vec_at hH (l := []) (c := []) .nil e (szT P e) 0 hsz (by simp) (by omega)
      refine ⟨_, rfl, fin _ _ ⟨_, _, _, h6, ?_, h7⟩⟩
      have e0 : Array.range 0 = #[] := by apply Array.ext'; simp
      simp [Instr.buildSlice, run_underlying hu, run_sizeOf' hsz, Instr.fill, newRow, e0]
  · -- makeSlice
    rename_i t x y l c
    split at h <;> try (simp at h; done)
    rename_i e hd
    have hu := und_sl hd
    split at h <;> try (simp at h; done)
    rename_i z hz
    split at h <;> simp at h
    rename_i hc
    obtain ⟨rfl, h0, hmax, hsz, hby, hzl⟩ := hc
    obtain ⟨rfl, rfl⟩ := h
    obtain ⟨cx, cy, hx, h1, h2⟩ := hv.two
    simp only [opnds, List.map_cons, List.map_nil, List.cons.injEq, and_true] at hx
    obtain ⟨rfl, rfl⟩ := hx
    obtain ⟨h1, _⟩ := h1
    obtain ⟨h2, _⟩ := h2
    obtain ⟨zv, zc, h3, h4, h5⟩ := zero_rel (ρ := ρ) hz w
    obtain ⟨i, hi, his⟩ := info_of hsz
    have hzc : zc.length = szT P e := by rw [← h5.length, hzl]
    have hll : l.toNat * szT P e = ((List.replicate l.toNat z).flatten).length := by simp [hzl]
    have h8 := vec_at hH (h5.rep l.toNat) e (szT P e) l.toNat hsz (by simp [hzc]) (by omega)
    rw [← hll] at h8
    obtain ⟨h6, h7⟩ := h8
    refine ⟨_, rfl, fin _ _ ⟨_, _, _, h6, ?_, h7⟩⟩
    have hw : IntKind.i64.wrap l = l := w64_id (by omega) (by omega)
    have hbytes : byT P e = i.bytes := by simp [byT, hi]
    have hb : ¬ ((i.bytes : Int) * l > 2 ^ 48) := by
      rw [← hbytes]
      have : (byT P e : Int) * l ≤ 1048576 * 1048576 := Int.mul_le_mul (by omega) hmax h0 (by omega)
      omega
    have hn : ¬ l < 0 := by omega
    have hn2 : ¬ l > l := by omega
    have hb' : decide ((i.bytes : Int) * l > 2 ^ 48) = false := decide_eq_false hb
    simp only [Instr.makeSlice, Sem.run_bind, run_underlying hu, Result.andThen_ok, h1, h2, asInt, asIntOf, Sem.run_pure, typeInfo, run_program, hi, hw, hb', Bool.false_or, hn, hn2, decide_false, Bool.or_self, Bool.false_eq_true, if_false, run_askRoom, run_sizeOf' hsz]
    by_cases hz0 : l.toNat * szT P e = 0
    · simp only [hz0, if_true, Sem.run_pure, Result.andThen_ok, newRow, Sem.run_bind, run_newObj]
      have e1 : (List.replicate l.toNat zc).flatten = [] := List.eq_nil_of_length_eq_zero (by simp [hzc, hz0])
      have e0 : Array.range 0 = #[] := by apply Array.ext'; simp
      rw [e1, e0]; simp
    · simp only [hz0, if_false, Sem.run_bind, Sem.run_pure, h3, Result.andThen_ok, h4, run_fill_range _ _ hzc, newRow, run_newObj]; rfl
  · simp only [tcof] at hk; unfold tcS at hk; split at hk <;> simp at hk
  · simp at h

/-- a store, with the map of locations as it was -/
theorem store_run {ρ : Ro} {o : Oper} {a : Act} {H H' : AH} {vs : List AV} {v : AV} {w : World} {id off n : Nat} (hk : tcof P tab o.op vs = .st id off n) (h : eop P o.op vs H = some (v, H'))
    (hv : L2 (VRel ρ) vs ((opnds o.op).map a.eval)) (hH : HR ρ w H) :
    (∃ w', Eff ρ w H w' ρ H' ∧ (execOp a.eval o).run P w = .ok .skip w' ∧ v = .c .und) ∧
    ∃ t x y ax ver l, o.op = .store t x y ∧ vs = [.c (.p id off ver), ax] ∧ ax.cells = some l ∧ n = szT P t ∧ H' = H.set id ((hg H id).put (wr (hg H id).cells off l)) ∧
      (hg H id).owned = true ∧ ver = (hg H id).row ∧ l.length = szT P t ∧ 0 < szT P t ∧ off + l.length ≤ (hg H id).cells.length ∧ l.all Sc.one = true := by
  obtain ⟨dst, op, ty, pos, after, guard⟩ := o
  simp only at h hv hk
  have hno : ∀ (u : Tc), (∀ a b c, u ≠ .st a b c) → tcof P tab op vs = u → False := by
    intro u hu e; rw [hk] at e; exact hu _ _ _ e.symm
  unfold eop at h
  split at h
  · exact (hno .mk (by simp) rfl).elim
  · exact (hno .mk (by simp) rfl).elim
  · exact (hno .mk (by simp) rfl).elim
  · exact (hno .mk (by simp) rfl).elim
  · rename_i t x y id' off' ver ax
    simp only [tcof, tcS, Tc.st.injEq] at hk
    obtain ⟨rfl, rfl, rfl⟩ := hk
    split at h <;> try (simp at h; done)
    rename_i l hl
    split at h <;> simp at h
    rename_i hc
    obtain ⟨hown, hver, hlen, hsz, hoff, hone⟩ := hc
    obtain ⟨rfl, rfl⟩ := h
    obtain ⟨cx, cy, hx, h1, h2⟩ := hv.two
    simp only [opnds, List.map_cons, List.map_nil, List.cons.injEq, and_true] at hx
    obtain ⟨rfl, rfl⟩ := hx
    obtain ⟨cs, h3, h4, _⟩ := h2.cells hl
    obtain ⟨L, ad, h5, h6, h7, h8⟩ := (show PRel ρ id' off' ver _ from h1)
    have hrow := (hH.obj id').row h5 (AObj.owned_live hown)
    obtain ⟨hnil, _, rfl⟩ := h8 (by rw [hrow]; exact hver)
    obtain ⟨w', h9, h10⟩ := store_eff (P := P) hH hown h5 hnil h4 hoff hone
    refine ⟨⟨w', h10, ?_, rfl⟩, t, x, y, ax, ver, l, rfl, rfl, hl, rfl, rfl, hown, hver, hlen, hsz, hoff, hone⟩
    have hcs : cs.toArray.size = szT P t := by simp [← h4.length, hlen]
    simp only [execOp, Sem.run_bind, Instr.storeAt, h6, Instr.sureAddr, Sem.run_pure, Result.andThen_ok, storeVar, run_sizeOf' hsz, h3, hcs, ne_eq, not_true_eq_false, if_false, h9]
  · simp at h

end Go.Am

/- Regions that draw their order: any order comes to what the text's order comes to. -/
namespace Go.Am
variable {P : Program} {tab : Tab} {N : Nat} {w0 : World} {M : Fx}

/-! ### what a step is, by its kind -/
theorem eop_kind {op : Op} {vs : List AV} {H H' : AH} {v : AV} (h : eop P op vs H = some (v, H')) : tcof P tab op vs = .mk ∨ ∃ a b c, tcof P tab op vs = .st a b c := by
  unfold eop at h
  split at h
  · exact .inl rfl
  · exact .inl rfl
  · exact .inl rfl
  · exact .inl rfl
  · exact .inr ⟨_, _, _, rfl⟩
  · simp at h

theorem astep_no {op : Op} {vs : List AV} {H H' : AH} {v : AV} (h : astep P tab op vs H = some (v, H')) (hk : tcof P tab op vs = .no) : H' = H ∧ ∀ H2, astep P tab op vs H2 = some (v, H2) := by
  unfold astep at h
  split at h
  · rename_i f as ts fn cs args
    simp only [tcof, tcC] at hk
    split at hk <;> simp at hk
    rename_i s hl
    simp only [callA, hl, Option.map_eq_some_iff, Prod.mk.injEq] at h
    obtain ⟨x, h1, rfl, rfl⟩ := h
    exact ⟨rfl, fun H2 => by simp [astep, callA, hl, h1]⟩
  · simp at h
  · simp [tcof, qk] at hk
  · rename_i x1 x2 n1 n2 n3
    split at h
    · rename_i v' hq
      simp at h
      obtain ⟨rfl, rfl⟩ := h
      refine ⟨rfl, fun H2 => ?_⟩
      have ht : touch op vs = [] := by
        unfold touch
        split
        · simp [tcof, tcL] at hk; split at hk <;> simp at hk
        · simp [tcof, tcS] at hk; split at hk <;> simp at hk
        · simp [tcof, qk] at hk
        · simp [tcof, qk] at hk
        · simp [tcof, qk] at hk
        · rfl
      rw [ht] at hq
      unfold astep
      split
      · exfalso; simp_all
      · exfalso; simp_all
      · simp [tcof, qk] at hk
      · rw [ht, List.map_nil]; simp only [List.map_nil] at hq; rw [hq]
    · rcases eop_kind (tab := tab) h with e | ⟨a, b, c, e⟩ <;> rw [hk] at e <;> simp at e

theorem rd_cong {ag : Bool} {cs ds : List Sc} {off n : Nat} (hl : cs.length = ds.length) (h : ∀ k, off ≤ k → k < off + n → cs.getD k .any = ds.getD k .any) (hn : 0 < n) : rd ag cs off n = rd ag ds off n := by
  unfold rd
  split
  · congr 1
    apply List.ext_getElem (by simp [hl])
    intro i h1 h2
    simp at h1 h2
    have := h (off + i) (by omega) (by omega)
    simp only [List.getD_eq_getElem?_getD] at this
    rw [List.getElem?_eq_getElem (by omega), List.getElem?_eq_getElem (by omega)] at this
    simpa using this
  · rw [h off (by omega) (by omega)]

theorem astep_ld {op : Op} {vs : List AV} {H H' : AH} {v : AV} {id off n : Nat} (h : astep P tab op vs H = some (v, H')) (hk : tcof P tab op vs = .ld id off n) :
    H' = H ∧ id < H.length ∧ (∃ ver, vs = [.c (.p id off ver)]) ∧
      ∀ H2, (hg H2 id).hd = (hg H id).hd → (∀ k, off ≤ k → k < off + n → (hg H2 id).cells.getD k .any = (hg H id).cells.getD k .any) → astep P tab op vs H2 = some (v, H2) := by
  obtain ⟨t, x, rfl⟩ : ∃ t x, op = .load t x := by
    unfold tcof at hk
    split at hk
    · exact ⟨_, _, rfl⟩
    · unfold tcS at hk; split at hk <;> simp at hk
    · simp at hk
    · simp at hk
    · simp at hk
    · simp at hk
    · unfold tcC at hk; split at hk <;> (try split at hk) <;> simp at hk
    · split at hk <;> simp at hk
  simp only [tcof, tcL] at hk
  split at hk <;> simp at hk
  rename_i id' off' ver
  obtain ⟨rfl, rfl, rfl⟩ := hk
  simp only [astep, touch, List.map_cons, List.map_nil, qop] at h
  split at h
  · rename_i v' hq
    simp at h
    obtain ⟨rfl, rfl⟩ := h
    split at hq <;> simp at hq
    rename_i hc
    subst hq
    have hlt : id' < H.length := by
      apply hg_lt
      cases hh : hg H id' with
      | dead => rw [hh] at hc; simp [AObj.cells] at hc; omega
      | _ => rfl
    refine ⟨rfl, hlt, ⟨_, rfl⟩, fun H2 h1 h2 => ?_⟩
    obtain ⟨r1, r2, _, _⟩ := AObj.hd_row h1
    simp only [astep, touch, List.map_cons, List.map_nil, qop]
    rw [if_pos (by rw [r1, r2]; exact hc), rd_cong r2 h2 hc.2.2.1]
  · simp [eop] at h

theorem store_inv {op : Op} {H H' : AH} {vs : List AV} {v : AV} {id off n : Nat} (hk : tcof P tab op vs = .st id off n) (h : eop P op vs H = some (v, H')) :
    ∃ t x y ax ver l, op = .store t x y ∧ vs = [.c (.p id off ver), ax] ∧ ax.cells = some l ∧ n = szT P t ∧ v = .c .und ∧ H' = H.set id ((hg H id).put (wr (hg H id).cells off l)) ∧
      (hg H id).owned = true ∧ ver = (hg H id).row ∧ l.length = szT P t ∧ 0 < szT P t ∧ off + l.length ≤ (hg H id).cells.length ∧ l.all Sc.one = true := by
  unfold eop at h
  split at h
  · simp [tcof] at hk
  · simp [tcof] at hk
  · simp [tcof] at hk
  · simp [tcof] at hk
  · rename_i t x y id' off' ver ax
    simp only [tcof, tcS, Tc.st.injEq] at hk
    obtain ⟨rfl, rfl, rfl⟩ := hk
    split at h <;> try (simp at h; done)
    rename_i l hl
    split at h <;> simp at h
    rename_i hc
    obtain ⟨hown, hver, hlen, hsz, hoff, hone⟩ := hc
    obtain ⟨rfl, rfl⟩ := h
    exact ⟨t, x, y, ax, ver, l, rfl, rfl, hl, rfl, rfl, rfl, hown, hver, hlen, hsz, hoff, hone⟩
  · simp at h

/-- a step that makes or stores is one of 'eop' -/
theorem astep_eop {op : Op} {vs : List AV} (hk : tcof P tab op vs = .mk ∨ ∃ a b c, tcof P tab op vs = .st a b c) (H2 : AH) : astep P tab op vs H2 = eop P op vs H2 := by
  unfold tcof at hk
  split at hk
  · unfold tcL at hk; split at hk <;> simp at hk
  · simp only [astep, qop]
  · simp only [astep, qop]
  · simp only [astep, qop]
  · simp only [astep, qop]
  · simp only [astep, qop]
  · unfold tcC at hk; split at hk <;> (try split at hk) <;> simp at hk
  · split at hk <;> simp at hk

theorem appA_len {ts : Array TypeId} {vs : List AV} {H H' : AH} {v : AV} (h : appA P ts vs H = some (v, H')) : H.length ≤ H'.length := by
  unfold appA at h
  split at h <;> try (simp at h; done)
  split at h <;> try (simp at h; done)
  split at h <;> try (simp at h; done)
  split at h <;> try (simp at h; done)
  split at h
  · split at h <;> try (simp at h; done)
    split at h <;> simp at h
    obtain ⟨_, rfl⟩ := h; simp
  · split at h <;> simp at h
    obtain ⟨_, rfl⟩ := h; simp
  · simp at h
theorem eop_len {op : Op} {vs : List AV} {H H' : AH} {v : AV} (h : eop P op vs H = some (v, H')) : H.length ≤ H'.length := by
  rcases eop_kind (tab := []) h with hk | ⟨a, b, c, hk⟩
  · unfold eop at h
    split at h
    · split at h <;> simp at h; obtain ⟨_, rfl⟩ := h; simp
    · split at h <;> simp at h; obtain ⟨_, rfl⟩ := h; simp
    · split at h <;> try (simp at h; done)
      split at h <;> try (simp at h; done)
      split at h
      · split at h <;> simp at h; obtain ⟨_, rfl⟩ := h; simp
      · split at h <;> simp at h; obtain ⟨_, rfl⟩ := h; simp
    · split at h <;> try (simp at h; done)
      split at h <;> try (simp at h; done)
      split at h <;> simp at h; obtain ⟨_, rfl⟩ := h; simp
    · simp only [tcof, tcS] at hk; simp at hk
    · simp at h
  · obtain ⟨_, _, _, _, _, _, _, _, _, _, _, rfl, _⟩ := store_inv hk h; simp
theorem astep_len (ht : TabOk P tab) {op : Op} {vs : List AV} {H H' : AH} {v : AV} (h : astep P tab op vs H = some (v, H')) : H.length ≤ H'.length := by
  unfold astep at h
  split at h
  · unfold callA at h
    split at h
    · simp only [Option.map_eq_some_iff, Prod.mk.injEq] at h; obtain ⟨_, _, _, rfl⟩ := h; exact Nat.le_refl _
    · rename_i s hl; exact (ht _ _ hl).len _ _ _ _ h
    · simp only [Option.map_eq_some_iff, Prod.mk.injEq] at h; obtain ⟨_, _, _, rfl⟩ := h; exact Nat.le_refl _
    · simp at h
  · simp at h
  · exact appA_len h
  · split at h
    · simp at h; rw [← h.2]; exact Nat.le_refl _
    · exact eop_len h
theorem astep_rd {op : Op} {vs : List AV} {H H' : AH} {v : AV} (h : astep P tab op vs H = some (v, H')) (hk : tcof P tab op vs = .rd) : H' = H := by
  unfold tcof at hk
  split at hk
  · unfold tcL at hk; split at hk <;> simp at hk
  · unfold tcS at hk; split at hk <;> simp at hk
  · simp at hk
  · simp at hk
  · simp at hk
  · simp at hk
  · unfold tcC at hk
    split at hk
    · split at hk <;> try (simp at hk; done)
      rename_i hl
      simp only [astep, callA, hl, Option.map_eq_some_iff, Prod.mk.injEq] at h
      obtain ⟨_, _, _, rfl⟩ := h; rfl
    · simp at hk
  · split at hk <;> simp at hk

/-- a step that changes nothing, with the map of locations as it was -/
theorem op_wq {o : Oper} {v : AV} {ρ : Ro} {fr : Fr} {H H' : AH} {a : Act} {w : World} {K : Act → World → Prop} {Q : Exit → Act → World → Prop} (ht : TabOk P tab) (hs : St N w0 M ρ fr H a w) (hd : dstOk N o.dst = true)
    (hk : tcof P tab o.op ((opnds o.op).map (ev fr)) = .no ∨ ∃ i b n, tcof P tab o.op ((opnds o.op).map (ev fr)) = .ld i b n)
    (h : astep P tab o.op ((opnds o.op).map (ev fr)) H = some (v, H')) (hK : ∀ a' w', St N w0 M ρ (putA o.dst v fr) H a' w' → K a' w') : o.wp P a w K Q := by
  have hv := ops_rel hs (opnds o.op)
  unfold astep at h
  split at h
  · rename_i op _ f as ts fn cs args hop hvs
    rw [hop] at hvs hv
    have hk' : look tab fn = none ∨ ∃ s, look tab fn = some (.pu s) := by
      rw [hop] at hk
      simp only [hvs, tcof, tcC] at hk
      split at hk
      · rename_i s hl; exact .inr ⟨s, hl⟩
      · simp at hk
      · simp at hk
    simp only [opnds, List.map_cons, List.cons.injEq] at hvs hv
    obtain ⟨hf, hargs⟩ := hvs
    have hfr := ev_rel hs.fr f
    rw [hf] at hfr
    obtain ⟨cv, hcv, hcr⟩ := hfr
    cases hv with
    | cons _ hv =>
      rcases hk' with hl | ⟨s, hl⟩
      · simp [callA, hl] at h
      · simp only [callA, hl, Option.map_eq_some_iff, Prod.mk.injEq] at h
        obtain ⟨v', h1, rfl, rfl⟩ := h
        obtain ⟨hen, hpu⟩ := ht fn _ hl
        have hrel : L2 (VRel ρ) (args ++ cs.map capV) (as.toList.map a.eval ++ cv) := by
          rw [← hargs]; exact hv.app (caps_vals hcr)
        have hcall := hpu _ _ h1 ρ w _ hrel
        have hrun : (execOp a.eval o).run P w = .ok (.enter fn (as.toList.map a.eval ++ cv).toArray) w := by
          have e1 : #[] ++ as.map a.eval ++ cv.toArray = (as.toList.map a.eval ++ cv).toArray := by apply Array.ext'; simp
          simp only [execOp, hop, resolve, hcv, Deferred.ofValue, Sem.run_bind, Sem.run_pure, Result.andThen_ok, invoke]
          rw [e1]; exact hen _ _
        simp only [Oper.wp, hrun, Oper.upon]
        refine hcall.mono ?_
        rintro e w' ⟨vc, rfl, h3, h4⟩
        exact hK _ _ ((hs.eff (Eff.quiet hs.hr h4)).put hd (h3 ρ))
  · simp at h
  · rename_i hop; exfalso; rw [hop] at hk; simp [tcof, qk] at hk
  · split at h
    · rename_i v' hq
      simp at h
      obtain ⟨rfl, rfl⟩ := h
      obtain ⟨vc, h1, h2⟩ := qop_run (o := o) hq hv (fun i => hs.hr.obj i)
      simp only [Oper.wp, h1, Oper.upon]
      exact hK _ _ (hs.put hd h2)
    · exfalso
      rcases eop_kind (tab := tab) h with e | ⟨b, c, d, e⟩ <;> rw [e] at hk <;> simp at hk

end Go.Am

/- Regions that draw their order: the text's order, taken apart. -/
namespace Go.Am
variable {P : Program} {tab : Tab} {N : Nat} {w0 : World} {M : Fx}

/-- the slots that an operation looks at -/
def looks (full : Array Oper) (o : Oper) : List Nat :=
  (opnds o.op).filterMap slotOf ++ (match o.guard with
  | some (j, _) => (dstA full j).toList
  | none => [])
/-- is there an edge from one operation to another one, that holds in every order? -/
def edge (full : Array Oper) (i j : Nat) : Bool :=
  match full[i]? with
  | some o => o.after.any fun e => e.on == j && Region.binds .any e
  | none => false
/-- what an order needs: edges lead back; slots are written once, and read by those behind alone -/
def ddr (full : Array Oper) : Bool :=
  let n := full.size
  (List.range n).all fun i =>
    match full[i]? with
    | none => false
    | some o =>
      o.after.all (fun e => !Region.binds .any e || decide (e.on < i)) &&
      (List.range n).all fun j =>
        match dstA full j with
        | none => true
        | some d => (i == j || o.dst != some d) && (!(looks full o).contains d || (i != j && (if j < i then edge full i j else edge full j i)))

theorem ev_agree {fr fm : Fr} {x : Operand} (h : ∀ t, slotOf x = some t → Am.get fm t = Am.get fr t) : ev fm x = ev fr x := by
  cases x with
  | tmp t => exact h t rfl
  | _ => rfl

/-- what an operation of a region gives at a frame: a value, where it is wanted; else nothing -/
inductive Gv (P : Program) (tab : Tab) (full : Array Oper) (o : Oper) (fr : Fr) (H : AH) : AV → AH → Tc → Prop
  | go (v : AV) (H' : AH) (hg : o.guard = none ∨ ∃ j q, o.guard = some (j, q) ∧ gval full fr j = some (some q)) (h : astep P tab o.op ((opnds o.op).map (ev fr)) H = some (v, H')) : Gv P tab full o fr H v H' (tcx (tcof P tab o.op ((opnds o.op).map (ev fr))) H H')
  | no (j : Nat) (q : Bool) (r : Option Bool) (hg : o.guard = some (j, q)) (hw : gval full fr j = some r) (hne : r ≠ some q) : Gv P tab full o fr H (.c .und) H .no

theorem looks_ops {full : Array Oper} {fr fm : Fr} {o : Oper} (ha : ∀ t ∈ looks full o, Am.get fm t = Am.get fr t) : (opnds o.op).map (ev fm) = (opnds o.op).map (ev fr) := by
  apply List.map_congr_left
  intro x hx
  refine ev_agree fun t ht => ha t ?_
  simp only [looks, List.mem_append, List.mem_filterMap]
  exact .inl ⟨x, hx, ht⟩
theorem looks_g {full : Array Oper} {fr fm : Fr} {o : Oper} (ha : ∀ t ∈ looks full o, Am.get fm t = Am.get fr t) (j : Nat) (q : Bool) (hj : o.guard = some (j, q)) : gval full fm j = gval full fr j := by
  unfold gval
  cases hd : (full[j]?).bind (·.dst) with
  | none => rfl
  | some d =>
    have : d ∈ looks full o := by
      simp only [looks, List.mem_append, hj]
      right; simp [dstA, hd]
    simp only [ha d this]

theorem Gv_len (ht : TabOk P tab) {full : Array Oper} {o : Oper} {fr : Fr} {H H' : AH} {v : AV} {t : Tc} (h : Gv P tab full o fr H v H' t) : H.length ≤ H'.length := by
  cases h with
  | go _ _ _ h => exact astep_len ht h
  | no => exact Nat.le_refl _

theorem Gv_quiet {full : Array Oper} {o : Oper} {fr : Fr} {H H' : AH} {v : AV} {t : Tc} (h : Gv P tab full o fr H v H' t) (hq : t.quiet = true) : H' = H := by
  cases h with
  | no => rfl
  | go _ _ _ h =>
    generalize hk : tcof P tab o.op ((opnds o.op).map (ev fr)) = t at hq
    cases t <;> simp [tcx, Tc.quiet] at hq
    · exact (astep_no h hk).1
    · exact (astep_ld h hk).1
    · exact astep_rd h hk

theorem tcof_ncl {op : Op} {vs : List AV} {A B : AH} (h : tcof P tab op vs = .cl A B) : False := by
  unfold tcof tcL tcS tcC at h
  split at h
  · split at h <;> simp at h
  · split at h <;> simp at h
  · simp at h
  · simp at h
  · simp at h
  · simp at h
  · split at h
    · split at h <;> simp at h
    · simp at h
  · split at h <;> simp at h
theorem tcx_mk {t : Tc} {H H' : AH} (h : tcx t H H' = .mk) : t = .mk := by cases t <;> simp [tcx] at h <;> rfl
theorem tcx_st {t : Tc} {H H' : AH} {a b c : Nat} (h : tcx t H H' = .st a b c) : t = .st a b c := by
  cases t <;> simp [tcx] at h
  obtain ⟨rfl, rfl, rfl⟩ := h; rfl
theorem Gv_cl {full : Array Oper} {o : Oper} {fr : Fr} {H H' : AH} {v : AV} {A B : AH} (h : Gv P tab full o fr H v H' (.cl A B)) : H = A ∧ H' = B := by
  generalize ht : Tc.cl A B = t at h
  cases h with
  | no => simp at ht
  | go _ _ _ h =>
    cases hk : tcof P tab o.op ((opnds o.op).map (ev fr)) <;> rw [hk] at ht <;> simp [tcx] at ht
    · exact ⟨ht.1.symm, ht.2.symm⟩
    · exact ⟨ht.1.symm, ht.2.symm⟩
theorem Gv_mk {full : Array Oper} {o : Oper} {fr : Fr} {H H' : AH} {v : AV} (h : Gv P tab full o fr H v H' .mk) : ∃ ob, H' = H ++ [ob] := by
  generalize ht : Tc.mk = t at h
  cases h with
  | no => simp at ht
  | go _ _ _ h =>
    have hk := tcx_mk ht.symm
    rw [astep_eop (.inl hk)] at h
    unfold eop at h
    split at h
    · split at h <;> simp at h; exact ⟨_, h.2.symm⟩
    · split at h <;> simp at h; exact ⟨_, h.2.symm⟩
    · split at h <;> try (simp at h; done)
      split at h <;> try (simp at h; done)
      split at h
      · split at h <;> simp at h; exact ⟨_, h.2.symm⟩
      · split at h <;> simp at h; exact ⟨_, h.2.symm⟩
    · split at h <;> try (simp at h; done)
      split at h <;> try (simp at h; done)
      split at h <;> simp at h; exact ⟨_, h.2.symm⟩
    · rename_i hop hvs; rw [hvs, hop] at hk; simp [tcof, tcS] at hk
    · simp at h

theorem put_on {o : AObj} {off n : Nat} {l src : List Sc} (ho : o.owned = true) (hn : l.length = n) (hl : off + l.length ≤ o.cells.length)
    (hsrc : ∀ k, off ≤ k → k < off + n → src.getD k .any = l.getD (k - off) .any) : o.put (wr o.cells off l) = o.on (ov off n src) := by
  refine AObj.ext ?_ fun k => ?_
  · rw [on_hd]
    cases o
    · show (0, 0, (wr _ off l).length) = _; rw [wr_len hl]; rfl
    · show (1, _, (wr _ off l).length) = _; rw [wr_len hl]; rfl
    · simp [AObj.owned] at ho
    · simp [AObj.owned] at ho
  · have e : (o.put (wr o.cells off l)).cells = wr o.cells off l := by cases o <;> simp [AObj.owned] at ho <;> rfl
    rw [e, wr_get hl, on_get, hn]
    by_cases c : off ≤ k ∧ k < off + n
    · rw [if_pos c, if_pos ⟨by omega, c⟩, hsrc k c.1 c.2]
    · rw [if_neg c, if_neg (fun h => c h.2)]

theorem Gv_st {full : Array Oper} {o : Oper} {fr : Fr} {H H' : AH} {v : AV} {id off n : Nat} (h : Gv P tab full o fr H v H' (.st id off n)) :
    ∃ t x y ax ver l, o.op = .store t x y ∧ (opnds o.op).map (ev fr) = [.c (.p id off ver), ax] ∧ ax.cells = some l ∧ n = szT P t ∧ v = .c .und ∧ H' = H.set id ((hg H id).put (wr (hg H id).cells off l)) ∧
      (hg H id).owned = true ∧ ver = (hg H id).row ∧ l.length = szT P t ∧ 0 < szT P t ∧ off + l.length ≤ (hg H id).cells.length ∧ l.all Sc.one = true := by
  generalize ht : Tc.st id off n = t at h
  cases h with
  | no => simp at ht
  | go _ _ _ h =>
    have hk := tcx_st ht.symm
    rw [astep_eop (.inr ⟨_, _, _, hk⟩)] at h
    exact store_inv hk h

/-- the text's step, object by object -/
theorem Gv_obj {full : Array Oper} {o : Oper} {fr : Fr} {H H' : AH} {v : AV} {t : Tc} (h : Gv P tab full o fr H v H' t) (p : Nat) : hg H' p = gE t H H' p (hg H p) := by
  cases hq : t.quiet with
  | true => rw [gE_quiet hq, Gv_quiet h hq]
  | false =>
    cases t <;> simp [Tc.quiet] at hq
    · rename_i id off n
      obtain ⟨t, x, y, ax, ver, l, _, _, _, rfl, _, rfl, hown, _, hlen, _, hoff, _⟩ := Gv_st h
      have hlt := hg_lt (AObj.owned_live hown)
      simp only [gE]
      rw [hg_set _ _ _ _ hlt, hg_set _ _ _ _ hlt]
      split
      · subst_vars
        rw [if_pos rfl]
        refine put_on hown hlen hoff fun k h1 h2 => ?_
        have e : ((hg H id).put (wr (hg H id).cells off l)).cells = wr (hg H id).cells off l := by
          cases hh : hg H id <;> rw [hh] at hown <;> simp [AObj.owned] at hown <;> rfl
        rw [e, wr_get hoff, if_pos ⟨h1, by omega⟩]
      · rfl
    · obtain ⟨ob, rfl⟩ := Gv_mk h
      simp only [gE]
      rw [hg_append]
      split
      · rfl
      · rfl
    · rfl
    · obtain ⟨rfl, rfl⟩ := Gv_cl h
      simp only [gE]
      by_cases e : hg H' p = hg H p ∧ (hg H p).live = true
      · rw [if_pos e, e.1]
      · rw [if_neg e]

structure TR (P : Program) (tab : Tab) (full : Array Oper) (F : Nat → Fr) (Hs : Nat → AH) (v : Nat → AV) (ts : Nat → Tc) (i0 : Nat) : Prop where
  step : ∀ m, i0 ≤ m → m < full.size → ∃ o, full[m]? = some o ∧ Gv P tab full o (F m) (Hs m) (v m) (Hs (m + 1)) (ts m) ∧ F (m + 1) = putA o.dst (v m) (F m)
  tie : ∀ m j, i0 ≤ j → j < m → m < full.size → clash (ts m) (ts j) → tied full m j = true

theorem okT_mem {full : Array Oper} {i : Nat} {t : Tc} : ∀ {log : List (Nat × Tc)}, okT full i t log → ∀ j u, (j, u) ∈ log → clash t u → tied full i j = true := by
  intro log
  induction log with
  | nil => intro _ j u h; simp at h
  | cons x log ih =>
    obtain ⟨j', u'⟩ := x
    intro h j u hm hc
    simp only [okT] at h
    rcases List.mem_cons.1 hm with e | hm
    · simp at e; obtain ⟨rfl, rfl⟩ := e; exact h.1 hc
    · exact ih h.2 j u hm hc
theorem psh_mem {i : Nat} {t : Tc} {log : List (Nat × Tc)} : (∀ x ∈ log, x ∈ psh i t log) ∧ (t ≠ .no → (i, t) ∈ psh i t log) := by
  cases t <;> simp [psh] <;> intros <;> simp_all

/-- the text's order, taken apart -/
theorem dr_gives {full : Array Oper} {k : List It} {Q : Fr → AH → Prop} : ∀ (l : List Oper) (i0 : Nat) (log : List (Nat × Tc)) (fr : Fr) (H : AH), i0 ≤ full.size → full.toList.drop i0 = l →
    arun P tab (.dr full l i0 log :: k) fr H Q →
    ∃ F Hs v ts, F i0 = fr ∧ Hs i0 = H ∧ TR P tab full F Hs v ts i0 ∧ (∀ m j u, i0 ≤ m → m < full.size → (j, u) ∈ log → clash (ts m) u → tied full m j = true) ∧ arun P tab k (F full.size) (Hs full.size) Q := by
  intro l
  induction l with
  | nil =>
    intro i0 log fr H hi hd h
    rw [arun_dr_nil] at h
    have : full.size ≤ i0 := by simpa using hd
    obtain rfl : i0 = full.size := by omega
    exact ⟨fun _ => fr, fun _ => H, fun _ => .c .any, fun _ => .no, rfl, rfl, ⟨fun m h1 h2 => by omega, fun m j h1 h2 h3 => by omega⟩, fun m j u h1 h2 => by omega, h⟩
  | cons o l ih =>
    intro i0 log fr H hi hd h
    have hlt : i0 < full.size := by
      rcases Nat.lt_or_ge i0 full.size with h | h
      · exact h
      · rw [List.drop_eq_nil_of_le (by simpa using h)] at hd; simp at hd
    have ho : full[i0]? = some o := by
      have : full.toList[i0]? = some o := by
        have := congrArg (fun l => l[0]?) hd
        simpa using this
      simpa using this
    have hd' : full.toList.drop (i0 + 1) = l := by
      have := congrArg (fun l => l.drop 1) hd
      simpa [List.drop_drop, Nat.add_comm] using this
    have main : ∀ v0 H1 t0 log', Gv P tab full o fr H v0 H1 t0 → (∀ x ∈ log, x ∈ log') → (t0 ≠ .no → (i0, t0) ∈ log') → (∀ j u, (j, u) ∈ log → clash t0 u → tied full i0 j = true) →
        arun P tab (.dr full l (i0 + 1) log' :: k) (putA o.dst v0 fr) H1 Q →
        ∃ F Hs v ts, F i0 = fr ∧ Hs i0 = H ∧ TR P tab full F Hs v ts i0 ∧ (∀ m j u, i0 ≤ m → m < full.size → (j, u) ∈ log → clash (ts m) u → tied full m j = true) ∧ arun P tab k (F full.size) (Hs full.size) Q := by
      intro v0 H1 t0 log' hg hsub hin hok h2
      obtain ⟨F, Hs, v, ts, e1, e2, htr, hlog, hfin⟩ := ih (i0 + 1) log' _ _ hlt hd' h2
      refine ⟨fun x => if x = i0 then fr else F x, fun x => if x = i0 then H else Hs x, fun x => if x = i0 then v0 else v x, fun x => if x = i0 then t0 else ts x, by simp, by simp, ⟨fun m h1 h3 => ?_, fun m j h1 h3 h4 hc => ?_⟩, fun m j u h1 h3 hm hc => ?_, ?_⟩
      · by_cases e : m = i0
        · subst e
          refine ⟨o, ho, ?_, ?_⟩
          · simp only [if_true]; rw [if_neg (by omega), e2]; exact hg
          · simp only [if_true]; rw [if_neg (by omega), e1]
        · obtain ⟨o', g1, g2, g3⟩ := htr.step m (by omega) h3
          refine ⟨o', g1, ?_, ?_⟩
          · simp only [if_neg e]; rw [if_neg (by omega)]; exact g2
          · simp only [if_neg e]; rw [if_neg (by omega)]; exact g3
      · have hm : m ≠ i0 := by omega
        simp only [if_neg hm] at hc
        by_cases e : j = i0
        · subst e
          simp only [if_true] at hc
          refine hlog m j t0 (by omega) h4 (hin ?_) hc
          rintro rfl; cases hh : ts m <;> rw [hh] at hc <;> simp [clash] at hc
        · simp only [if_neg e] at hc
          exact htr.tie m j (by omega) h3 h4 hc
      · by_cases e : m = i0
        · subst e
          simp only [if_true] at hc
          exact hok j u hm hc
        · simp only [if_neg e] at hc
          exact hlog m j u (by omega) h3 (hsub _ hm) hc
      · simp only [if_neg (show full.size ≠ i0 by omega)]; exact hfin
    rw [arun_dr] at h
    split at h
    · rename_i hg
      split at h
      · rename_i v H' h1
        exact main v H' _ _ (.go v H' (.inl hg) h1) psh_mem.1 psh_mem.2 (okT_mem h.1) h.2
      · exact h.elim
    · rename_i j want hg
      split at h
      · rename_i q hgv
        split at h
        · rename_i e; subst e
          split at h
          · rename_i v H' h1
            exact main v H' _ _ (.go v H' (.inr ⟨j, q, hg, hgv⟩) h1) psh_mem.1 psh_mem.2 (okT_mem h.1) h.2
          · exact h.elim
        · rename_i e
          exact main _ _ _ log (.no j want _ hg hgv (by simpa using e)) (fun _ h => h) (fun h => (h rfl).elim) (fun _ _ _ h => by simp [clash] at h) h
      · rename_i hgv
        exact main _ _ _ log (.no j want _ hg hgv (by simp)) (fun _ h => h) (fun h => (h rfl).elim) (fun _ _ _ h => by simp [clash] at h) h
      · exact h.elim

theorem tied_spec {full : Array Oper} {S : Nat → Prop} (hS : ∀ j o, full[j]? = some o → S j → ∀ e ∈ o.after, Region.binds .any e = true → S e.on) {m j : Nat} (h : tied full m j = true) (hm : S m) : S j := by
  have key : ∀ k l, (∀ x ∈ l, S x) → ∀ x ∈ ancs full k l, S x := by
    intro k
    induction k with
    | zero => intro l hl x hx; exact hl x hx
    | succ k ih =>
      intro l hl x hx
      simp only [ancs] at hx
      refine ih _ ?_ x hx
      intro y hy
      split at hy
      · rename_i hk
        rcases List.mem_append.1 hy with hy | hy
        · have hSk : S k := hl k (by simpa using hk)
          unfold ups at hy
          split at hy
          · rename_i o ho
            simp only [List.mem_map, List.mem_filter] at hy
            obtain ⟨e, ⟨he, hb⟩, rfl⟩ := hy
            exact hS k o ho hSk e (by simpa using he) hb
          · simp at hy
        · exact hl y hy
      · exact hl y hy
  unfold tied at h
  exact key _ [m] (by simpa using hm) j (by simpa using h)

end Go.Am

/- Regions that draw their order: any order comes to what the text's order comes to. -/
namespace Go.Am
variable {P : Program} {tab : Tab} {N : Nat}

/-- a frame in which some of a region's operations have been done -/
def Mix (full : Array Oper) (v : Nat → AV) (fr : Fr) (S : Nat → Prop) (fm : Fr) : Prop :=
  ∀ s, (∀ j, S j → dstA full j = some s → Am.get fm s = v j) ∧ ((∀ j, S j → dstA full j ≠ some s) → Am.get fm s = Am.get fr s)

theorem Mix.put {full : Array Oper} {v : Nat → AV} {fr fm : Fr} {S : Nat → Prop} (h : Mix full v fr S fm) {i : Nat} {o : Oper} (hi : full[i]? = some o) (hdis : ∀ d, o.dst = some d → ∀ j, S j → dstA full j ≠ some d) :
    Mix full v fr (fun j => S j ∨ j = i) (putA o.dst (v i) fm) := by
  have hd : dstA full i = o.dst := by simp [dstA, hi]
  intro s
  cases ho : o.dst with
  | none =>
    simp only [putA]
    refine ⟨?_, fun hs => (h s).2 fun j hj => hs j (.inl hj)⟩
    rintro j (hj | rfl) hs
    · exact (h s).1 j hj hs
    · rw [hd, ho] at hs; simp at hs
  | some d =>
    rw [ho] at hd
    simp only [putA, Am.get]
    constructor
    · rintro j (hj | rfl) hs
      · have : d ≠ s := by rintro rfl; exact hdis d ho j hj hs
        rw [if_neg this]; exact (h s).1 j hj hs
      · rw [hd] at hs; simp at hs; rw [if_pos hs]
    · intro hs
      have : d ≠ s := by rintro rfl; exact hs i (.inr rfl) hd
      rw [if_neg this]; exact (h s).2 fun j hj => hs j (.inl hj)

theorem Mix.get_eq {full : Array Oper} {v : Nat → AV} {fr fm fm' : Fr} {S S' : Nat → Prop} (h : Mix full v fr S fm) (h' : Mix full v fr S' fm') (hS : ∀ j, S j ↔ S' j) (s : Nat) : Am.get fm s = Am.get fm' s := by
  by_cases hx : ∃ j, S j ∧ dstA full j = some s
  · obtain ⟨j, h1, h2⟩ := hx
    rw [(h s).1 j h1 h2, (h' s).1 j ((hS j).1 h1) h2]
  · have h1 : ∀ j, S j → dstA full j ≠ some s := fun j hj e => hx ⟨j, hj, e⟩
    rw [(h s).2 h1, (h' s).2 fun j hj => h1 j ((hS j).2 hj)]

theorem ddr_spec {full : Array Oper} (h : ddr full = true) {i : Nat} {o : Oper} (hi : full[i]? = some o) :
    (∀ e ∈ o.after, Region.binds .any e = true → e.on < i) ∧
      ∀ j < full.size, ∀ d, dstA full j = some d → (i ≠ j → o.dst ≠ some d) ∧ (d ∈ looks full o → i ≠ j ∧ (j < i → edge full i j = true) ∧ (i < j → edge full j i = true)) := by
  have hlt : i < full.size := by
    rcases Nat.lt_or_ge i full.size with h | h
    · exact h
    · rw [Array.getElem?_eq_none h] at hi; simp at hi
  unfold ddr at h
  have := List.all_eq_true.1 h i (by simpa using hlt)
  rw [hi] at this
  simp only [Bool.and_eq_true] at this
  obtain ⟨h3, h4⟩ := this
  refine ⟨fun e he hb => ?_, fun j hj d hd => ?_⟩
  · have := Array.all_eq_true'.1 h3 e he
    simpa [hb] using this
  · have := List.all_eq_true.1 h4 j (by simpa using hj)
    rw [hd] at this
    simp only [Bool.and_eq_true, Bool.or_eq_true, beq_iff_eq, bne_iff_ne, Bool.not_eq_true'] at this
    refine ⟨fun hne => ?_, fun hl => ?_⟩
    · rcases this.1 with h | h
      · exact (hne h).elim
      · simpa using h
    · rcases this.2 with h | ⟨h, h'⟩
      · exfalso; simp at h; exact h hl
      · refine ⟨h, fun hji => ?_, fun hij => ?_⟩
        · rw [if_pos hji] at h'; exact h'
        · rw [if_neg (by omega)] at h'; exact h'

theorem edge_spec {full : Array Oper} {i j : Nat} (h : edge full i j = true) : ∃ o, full[i]? = some o ∧ ∃ e ∈ o.after, e.on = j ∧ Region.binds .any e = true := by
  unfold edge at h
  split at h
  · rename_i o ho
    obtain ⟨e, he, hp⟩ := Array.any_eq_true'.1 h
    simp at hp
    exact ⟨o, ho, e, he, hp⟩
  · simp at h

theorem count_one (p q : Nat → Bool) (i : Nat) (hp : p i = true) (hq : q i = false) (h : ∀ j, j ≠ i → q j = p j) : ∀ n, (i < n → (List.range n).countP q + 1 = (List.range n).countP p) ∧ (n ≤ i → (List.range n).countP q = (List.range n).countP p) := by
  intro n
  induction n with
  | zero => simp
  | succ n ih =>
    rw [List.range_succ, List.countP_append, List.countP_append]
    simp only [List.countP_cons, List.countP_nil, Nat.zero_add]
    by_cases hn : n = i
    · subst hn
      rw [hp, hq, ih.2 (Nat.le_refl _)]
      simp
    · rw [h n hn]
      constructor
      · intro hi; have := ih.1 (by omega); omega
      · intro hi; have := ih.2 (by omega); omega

/-! ### the objects behind some of the operations -/
noncomputable def hp (ts : Nat → Tc) (Hs : Nat → AH) (S : Nat → Bool) (n : Nat) : AH := (List.range (Hs n).length).map fun p => val ts Hs S p n
theorem hp_len {ts : Nat → Tc} {Hs : Nat → AH} {S : Nat → Bool} {n : Nat} : (hp ts Hs S n).length = (Hs n).length := by simp [hp]

structure TF (full : Array Oper) (Hs : Nat → AH) (ts : Nat → Tc) : Prop where
  mono : ∀ m, m < full.size → (Hs m).length ≤ (Hs (m + 1)).length
  obj : ∀ m, m < full.size → ∀ p, hg (Hs (m + 1)) p = gE (ts m) (Hs m) (Hs (m + 1)) p (hg (Hs m) p)
  mk1 : ∀ m, m < full.size → ts m = .mk → (Hs (m + 1)).length = (Hs m).length + 1
  st : ∀ m, m < full.size → ∀ id a n, ts m = .st id a n → id < (Hs m).length ∧ (Hs (m + 1)).length = (Hs m).length
  quiet : ∀ m, m < full.size → (ts m).quiet = true → Hs (m + 1) = Hs m
  cl : ∀ m, m < full.size → ∀ A B, ts m = .cl A B → Hs m = A ∧ Hs (m + 1) = B

section facts
variable {full : Array Oper} {Hs : Nat → AH} {ts : Nat → Tc} {S : Nat → Bool}
theorem TF.lens (h : TF full Hs ts) {a b : Nat} (hab : a ≤ b) (hb : b ≤ full.size) : (Hs a).length ≤ (Hs b).length := by
  induction b with
  | zero => obtain rfl : a = 0 := by omega
            exact Nat.le_refl _
  | succ b ih =>
    rcases Nat.lt_or_ge a (b + 1) with h' | h'
    · exact Nat.le_trans (ih (by omega) (by omega)) (h.mono b (by omega))
    · obtain rfl : a = b + 1 := by omega
      exact Nat.le_refl _
theorem TF.val_dead (h : TF full Hs ts) {p : Nat} (hp : (Hs full.size).length ≤ p) : ∀ m, m ≤ full.size → val ts Hs S p m = .dead := by
  intro m
  induction m with
  | zero => intro _; exact hg_ge _ (Nat.le_trans (h.lens (Nat.zero_le _) (Nat.le_refl _)) hp)
  | succ m ih =>
    intro hm
    have := ih (by omega)
    have hl := h.lens hm (Nat.le_refl _)
    simp only [val]
    split
    · rw [this]
      cases hh : ts m with
      | mk => simp only [gE]; split <;> first | rfl | exact hg_ge _ (by omega)
      | st id a n => simp only [gE]; split <;> rfl
      | bar => exact hg_ge _ (by omega)
      | cl A B =>
        simp only [gE]
        split
        · rfl
        · obtain ⟨e1, e2⟩ := h.cl m (by omega) A B hh
          subst e1; subst e2
          exact hg_ge _ (by omega)
      | _ => rfl
    · exact this
theorem TF.hg_hp (h : TF full Hs ts) (p : Nat) : hg (hp ts Hs S full.size) p = val ts Hs S p full.size := by
  rcases Nat.lt_or_ge p (Hs full.size).length with h' | h'
  · unfold hg hp
    simp [List.getD_eq_getElem?_getD, h']
  · rw [hg_ge _ (by rw [hp_len]; exact h'), h.val_dead h' _ (Nat.le_refl _)]
/-- the text's objects -/
theorem TF.val_text (h : TF full Hs ts) {i : Nat} (p : Nat) : ∀ m, m ≤ full.size → val ts Hs (fun j => decide (j < i)) p m = hg (Hs (min i m)) p := by
  intro m
  induction m with
  | zero => intro _; simp [val]
  | succ m ih =>
    intro hm
    simp only [val, ih (by omega), decide_eq_true_eq]
    split
    · rename_i hlt
      rw [Nat.min_eq_right (by omega), Nat.min_eq_right (by omega), ← h.obj m (by omega)]
    · rename_i hge
      rw [Nat.min_eq_left (by omega), Nat.min_eq_left (by omega)]
end facts

theorem hd_dead {o : AObj} (h : o.hd = AObj.dead.hd) : o = .dead := by
  cases o <;> simp [AObj.hd] at h <;> rfl

theorem TR.tf (ht : TabOk P tab) {full : Array Oper} {F : Nat → Fr} {Hs : Nat → AH} {v : Nat → AV} {ts : Nat → Tc} (h : TR P tab full F Hs v ts 0) : TF full Hs ts := by
  refine ⟨fun m hm => ?_, fun m hm p => ?_, fun m hm e => ?_, fun m hm id a n e => ?_, fun m hm e => ?_, fun m hm A B e => ?_⟩
  · obtain ⟨o, _, h2, _⟩ := h.step m (Nat.zero_le _) hm; exact Gv_len ht h2
  · obtain ⟨o, _, h2, _⟩ := h.step m (Nat.zero_le _) hm; exact Gv_obj h2 p
  · obtain ⟨o, _, h2, _⟩ := h.step m (Nat.zero_le _) hm
    rw [e] at h2
    obtain ⟨ob, e2⟩ := Gv_mk h2
    rw [e2]; simp
  · obtain ⟨o, _, h2, _⟩ := h.step m (Nat.zero_le _) hm
    rw [e] at h2
    obtain ⟨_, _, _, _, _, _, _, _, _, _, _, e2, hown, _⟩ := Gv_st h2
    exact ⟨hg_lt (AObj.owned_live hown), by rw [e2]; simp⟩
  · obtain ⟨o, _, h2, _⟩ := h.step m (Nat.zero_le _) hm; exact Gv_quiet h2 e
  · obtain ⟨o, _, h2, _⟩ := h.step m (Nat.zero_le _) hm
    rw [e] at h2
    exact Gv_cl h2

theorem aff_clash {t : Tc} {H0 : AH} {p a n : Nat} (h : aff t H0 p a n) (hm : t ≠ .mk) : clash t (.ld p a n) ∧ clash (.ld p a n) t ∧ clash t (.st p a n) ∧ clash (.st p a n) t := by
  cases t with
  | cl A B => simp only [aff] at h; exact ⟨h, h, trivial, trivial⟩
  | _ => simp [aff] at h hm <;> simp [clash] <;> omega

/-- what is known when some of the operations are done -/
structure Inv (full : Array Oper) (N : Nat) (w0 : World) (M : Fx) (F0 : Fr) (Hs : Nat → AH) (v : Nat → AV) (ts : Nat → Tc) (S : Nat → Bool) (fm : Fr) (ρ : Ro) (a : Act) (w : World) : Prop where
  mix : Mix full v F0 (fun j => S j = true) fm
  st : St N w0 M ρ fm (hp ts Hs S full.size) a w
  un : ∀ m, m < full.size → S m = false → ∀ p, (Hs m).length ≤ p → p < (Hs (m + 1)).length → ρ p = none
  sk : ∀ m, m < full.size → S m = true → ∀ id b n, ts m = .st id b n → ∀ j, j < full.size → S j = false → ¬ ((Hs j).length ≤ id ∧ id < (Hs (j + 1)).length)

section step
variable {w0 : World} {M : Fx} {full : Array Oper} {F : Nat → Fr} {Hs : Nat → AH} {v : Nat → AV} {ts : Nat → Tc} {S T : Nat → Bool} {fm : Fr} {ρ : Ro} {a : Act} {w : World} {i : Nat}

/-- an operation that is done next -/
theorem draw_step (ht : TabOk P tab) (htr : TR P tab full F Hs v ts 0) (hi : i < full.size) {o : Oper} (ho : full[i]? = some o) (hok : dstOk N o.dst = true) (hSi : S i = false) (hT : ∀ m, T m = (S m || decide (m = i)))
    (hbd : ∀ m, S m = true → m < full.size)
    (hagree : ∀ t ∈ looks full o, Am.get fm t = Am.get (F i) t)
    (hlow : ∀ m, m < i → S m = false → ¬ clash (ts i) (ts m)) (hhigh : ∀ m, i < m → S m = true → ¬ clash (ts m) (ts i))
    (hdst : ∀ d, o.dst = some d → ∀ j, S j = true → dstA full j ≠ some d)
    (hI : Inv full N w0 M (F 0) Hs v ts S fm ρ a w) {R : Act → World → Prop} {Q : Exit → Act → World → Prop}
    (hK : ∀ fm' ρ' a' w', Inv full N w0 M (F 0) Hs v ts T fm' ρ' a' w' → R a' w') :
    (Region.wanted o (yielded full a.tmps) = true → o.wp P a w R Q) ∧ (Region.wanted o (yielded full a.tmps) = false → R (a.put o.dst undef) w) := by
  have htf := htr.tf ht
  obtain ⟨o', ho', hgv, _⟩ := htr.step i (Nat.zero_le _) hi
  obtain rfl : o = o' := by rw [ho] at ho'; simpa using ho'
  have hvs := looks_ops hagree
  have hTi : T i = true := by rw [hT]; simp
  have hTs : ∀ m, m ≠ i → T m = S m := by intro m hm; rw [hT]; simp [hm]
  have hTf : ∀ m, T m = false → S m = false ∧ m ≠ i := by intro m hm; rw [hT] at hm; simpa using hm
  have hmix : Mix full v (F 0) (fun j => T j = true) (putA o.dst (v i) fm) := by
    have := hI.mix.put ho hdst
    intro s
    obtain ⟨g1, g2⟩ := this s
    exact ⟨fun j hj => g1 j (by have hj : T j = true := hj; rw [hT] at hj; simpa using hj), fun h => g2 fun j hj => h j (by show T j = true; rw [hT]; simpa using hj)⟩
  -- the objects behind it
  have hput : ∀ p, val ts Hs T p full.size = gE (ts i) (Hs i) (Hs (i + 1)) p (val ts Hs S p full.size) := by
    intro p
    refine val_put hSi hT _ hi fun m h1 h2 h3 c => gE_comm (hhigh m h1 h3) (fun e1 e2 e => ?_) (fun id b n e1 e2 e => ?_) (fun id b n e1 e2 e => ?_)
    · have := htf.mk1 i hi e2
      have := htf.lens (a := i + 1) (b := m) h1 (by omega)
      omega
    · refine hI.sk m h2 h3 id b n e1 i hi hSi ?_
      have := htf.mk1 i hi e2
      omega
    · have := (htf.st i hi id b n e2).1
      have := htf.lens (a := i) (b := m) (by omega) (by omega)
      omega
  have hps : (hp ts Hs T full.size).length = (hp ts Hs S full.size).length := by rw [hp_len, hp_len]
  have hquiet : (ts i).quiet = true → hp ts Hs T full.size = hp ts Hs S full.size := by
    intro hq
    refine hg_ext hps fun p => ?_
    rw [htf.hg_hp, htf.hg_hp, hput, gE_quiet hq]
  have hinti : (ts i).quiet = true → (Hs (i + 1)).length = (Hs i).length := fun hq => by rw [htf.quiet i hi hq]
  have hsk : (∀ id b n, ts i = .st id b n → ∀ j, j < full.size → S j = false → ¬ ((Hs j).length ≤ id ∧ id < (Hs (j + 1)).length)) →
      ∀ m, m < full.size → T m = true → ∀ id b n, ts m = .st id b n → ∀ j, j < full.size → T j = false → ¬ ((Hs j).length ≤ id ∧ id < (Hs (j + 1)).length) := by
    intro hst m hm hTm id b n e j hj hTj
    obtain ⟨h1, _⟩ := hTf j hTj
    by_cases hmi : m = i
    · subst hmi; exact hst id b n e j hj h1
    · rw [hTs m hmi] at hTm; exact hI.sk m hm hTm id b n e j hj h1
  have hun : ∀ m, m < full.size → T m = false → ∀ p, (Hs m).length ≤ p → p < (Hs (m + 1)).length → ρ p = none := fun m hm hTm => hI.un m hm (hTf m hTm).1
  -- where a pointer leads
  have hfar : ∀ p, (∃ L, ρ p = some L) → ∀ j, j < full.size → S j = false → ¬ ((Hs j).length ≤ p ∧ p < (Hs (j + 1)).length) := by
    rintro p ⟨L, hL⟩ j hj hSj ⟨h1, h2⟩
    rw [hI.un j hj hSj p h1 h2] at hL; simp at hL
  have hptr : ∀ id b ver r, (opnds o.op).map (ev fm) = .c (.p id b ver) :: r → ∃ L, ρ id = some L := by
    intro id b ver r e
    have := ops_rel hI.st (opnds o.op)
    rw [e] at this
    cases hcs : (opnds o.op).map a.eval with
    | nil => rw [hcs] at this; cases this
    | cons y ys =>
      rw [hcs] at this
      cases this with
      | cons h _ => obtain ⟨L, _, h1, _⟩ := (show PRel ρ id b ver _ from h); exact ⟨L, h1⟩
  -- the text's object and this one
  have hsee : ∀ id b n, id < (Hs i).length → (∃ L, ρ id = some L) → (ts i = .ld id b n ∨ ts i = .st id b n) →
      (val ts Hs S id full.size).hd = (hg (Hs i) id).hd ∧ ∀ k, b ≤ k → k < b + n → (val ts Hs S id full.size).cells.getD k .any = (hg (Hs i) id).cells.getD k .any := by
    intro id b n hlt hL hti
    have e := htf.val_text (i := i) id full.size (Nat.le_refl _)
    rw [Nat.min_eq_left (by omega)] at e
    rw [← e]
    refine val_agree full.size fun m hm hne haf => ?_
    by_cases hmk : ts m = .mk
    · rw [hmk] at haf
      simp only [aff] at haf
      have hml := htf.mk1 m hm hmk
      by_cases hSm : S m = true
      · have hge : ¬ m < i := by simpa [hSm] using hne
        have := htf.lens (a := i) (b := m) (by omega) (by omega)
        omega
      · exact hfar id hL m hm (by simpa using hSm) ⟨by omega, by omega⟩
    · obtain ⟨c1, c2, c3, c4⟩ := aff_clash haf hmk
      by_cases hSm : S m = true
      · have hge : ¬ m < i := by simpa [hSm] using hne
        have hgt : i < m := by
          rcases Nat.lt_or_ge i m with h | h
          · exact h
          · obtain rfl : i = m := by omega
            rw [hSi] at hSm; simp at hSm
        have := hhigh m hgt hSm
        rcases hti with e | e <;> rw [e] at this
        · exact this c1
        · exact this c3
      · have hSm' : S m = false := by simpa using hSm
        have hlt' : m < i := by simpa [hSm'] using hne
        have := hlow m hlt' hSm'
        rcases hti with e | e <;> rw [e] at this
        · exact this c2
        · exact this c4
  -- all objects are the text's
  have hall : (ts i = .rd ∨ ∃ A B, ts i = .cl A B) → (∀ m, m < full.size → S m ≠ decide (m < i) → ts m = .no ∨ ∃ b c d, ts m = .ld b c d ∨ (ts m = .rd)) ∧ ∀ p, val ts Hs S p full.size = hg (Hs i) p := by
    intro hti
    have h1 : ∀ m, m < full.size → S m ≠ decide (m < i) → ts m = .no ∨ ∃ b c d, ts m = .ld b c d ∨ (ts m = .rd) := by
      intro m hm hne
      have hc : ¬ clash (ts i) (ts m) ∨ ¬ clash (ts m) (ts i) := by
        by_cases hSm : S m = true
        · have hge : ¬ m < i := by simpa [hSm] using hne
          have hgt : i < m := by
            rcases Nat.lt_or_ge i m with h | h
            · exact h
            · obtain rfl : i = m := by omega
              rw [hSi] at hSm; simp at hSm
          exact .inr (hhigh m hgt hSm)
        · have hSm' : S m = false := by simpa using hSm
          exact .inl (hlow m (by simpa [hSm'] using hne) hSm')
      rcases hti with e | ⟨A, B, e⟩ <;> rw [e] at hc <;> cases hh : ts m <;> rw [hh] at hc <;> simp [clash] at hc ⊢
    refine ⟨h1, fun p => ?_⟩
    have e := htf.val_text (i := i) p full.size (Nat.le_refl _)
    rw [Nat.min_eq_left (by omega)] at e
    rw [← e]
    refine val_eq full.size fun m hm hne => ?_
    rcases h1 m hm hne with e | ⟨_, _, _, e | e⟩ <;> rw [e] <;> rfl
  generalize hvi : v i = vi at hgv hmix
  generalize hHi : Hs (i + 1) = Hn at hgv
  generalize hti : ts i = ti at hgv
  cases hgv with
  | no j q r hg1 h2 h3 =>
    have hy := gval_spec (by rw [looks_g hagree j q hg1]; exact h2) hI.st.fr
    refine ⟨fun hw => ?_, fun _ => ?_⟩
    · exfalso; simp [Region.wanted, hg1, hy] at hw; exact h3 hw
    · refine hK _ ρ _ w ⟨hmix, ?_, hun, hsk fun id b n e => by rw [hti] at e; simp at e⟩
      rw [hquiet (by rw [hti]; rfl)]
      exact hI.st.put hok rfl
  | go _ _ hg1 h =>
    refine ⟨fun _ => ?_, fun hw => ?_⟩
    rotate_left
    · exfalso
      rcases hg1 with hg1 | ⟨j, q, hg1, h2⟩
      · simp [Region.wanted, hg1] at hw
      · have hy := gval_spec (by rw [looks_g hagree j q hg1]; exact h2) hI.st.fr
        simp [Region.wanted, hg1, hy] at hw
    rw [← hvs] at h hti
    cases htc : tcof P tab o.op ((opnds o.op).map (ev fm)) with
    | no =>
      rw [htc] at hti
      simp only [tcx] at hti
      refine op_wq ht hI.st hok (.inl htc) ((astep_no h htc).2 _) fun a' w' hst => hK _ ρ a' w' ⟨hmix, ?_, hun, hsk fun id b n e => by rw [hti] at e; simp at e⟩
      rw [hquiet (by rw [hti]; rfl)]; exact hst
    | ld id b n =>
      rw [htc] at hti
      simp only [tcx] at hti
      obtain ⟨_, hlt, ⟨ver, hv1⟩, h4⟩ := astep_ld h htc
      obtain ⟨s1, s2⟩ := hsee id b n hlt (hptr _ _ _ _ hv1) (.inl hti)
      refine op_wq ht hI.st hok (.inr ⟨_, _, _, htc⟩) (h4 _ (by rw [htf.hg_hp]; exact s1) (fun k g1 g2 => by rw [htf.hg_hp]; exact s2 k g1 g2)) fun a' w' hst => hK _ ρ a' w' ⟨hmix, ?_, hun, hsk fun id b n e => by rw [hti] at e; simp at e⟩
      rw [hquiet (by rw [hti]; rfl)]; exact hst
    | rd =>
      rw [htc] at hti
      simp only [tcx] at hti
      obtain ⟨h1, h2⟩ := hall (.inl hti)
      obtain rfl := astep_rd h htc
      have hst1 : St N w0 M ρ fm (Hs i) a w := by
        refine hI.st.cast (fun p => by rw [htf.hg_hp, h2]) fun p hp => ?_
        rcases Nat.lt_or_ge p (Hs full.size).length with hlt | hge
        · -- made later, and not yet
          obtain ⟨m, hm1, hm2, hm3, hm4⟩ : ∃ m, i ≤ m ∧ m < full.size ∧ (Hs m).length ≤ p ∧ p < (Hs (m + 1)).length := by
            have : ∀ d, i + d ≤ full.size → p < (Hs (i + d)).length → ∃ m, i ≤ m ∧ m < full.size ∧ (Hs m).length ≤ p ∧ p < (Hs (m + 1)).length := by
              intro d
              induction d with
              | zero => intro _ h; rw [Nat.add_zero] at h; omega
              | succ d ih =>
                intro hd h
                rcases Nat.lt_or_ge p (Hs (i + d)).length with h' | h'
                · exact ih (by omega) h'
                · exact ⟨i + d, by omega, by omega, h', h⟩
            exact this (full.size - i) (by omega) (by rw [show i + (full.size - i) = full.size by omega]; exact hlt)
          refine hI.un m hm2 ?_ p hm3 hm4
          cases hSm : S m with
          | false => rfl
          | true =>
            exfalso
            rcases h1 m hm2 (by rw [hSm]; simp; omega) with e | ⟨_, _, _, e | e⟩ <;> (have := htf.quiet m hm2 (by rw [e]; rfl); rw [this] at hm4; omega)
        · exact hI.st.hr.fresh p (by rw [hp_len]; exact hge)
      refine op_wp ht hst1 hok h fun ρ' a' w' hst => hK _ ρ' a' w' ⟨hmix, ?_, fun m hm hTm p g1 g2 => ?_, hsk fun id b n e => by rw [hti] at e; simp at e⟩
      · rw [hquiet (by rw [hti]; rfl)]
        refine hst.cast (fun p => by rw [htf.hg_hp, h2]) fun p hp => hst.hr.fresh p ?_
        rw [hp_len] at hp
        have := htf.lens (a := i) (b := full.size) (by omega) (Nat.le_refl _)
        omega
      · obtain ⟨hSm, hne⟩ := hTf m hTm
        rcases Nat.lt_or_ge m i with hlt | hge
        · exfalso
          rcases h1 m hm (by rw [hSm]; simp; exact hlt) with e | ⟨_, _, _, e | e⟩ <;> (have := htf.quiet m hm (by rw [e]; rfl); rw [this] at g2; omega)
        · have := htf.lens (a := i) (b := m) hge (by omega)
          exact hst.hr.fresh p (by omega)
    | bar =>
      rw [htc] at hti
      simp only [tcx] at hti
      obtain ⟨h1, h2⟩ := hall (.inr ⟨_, _, hti⟩)
      subst hHi
      have hst1 : St N w0 M ρ fm (Hs i) a w := by
        refine hI.st.cast (fun p => by rw [htf.hg_hp, h2]) fun p hp => ?_
        rcases Nat.lt_or_ge p (Hs full.size).length with hlt | hge
        · obtain ⟨m, hm1, hm2, hm3, hm4⟩ : ∃ m, i ≤ m ∧ m < full.size ∧ (Hs m).length ≤ p ∧ p < (Hs (m + 1)).length := by
            have : ∀ d, i + d ≤ full.size → p < (Hs (i + d)).length → ∃ m, i ≤ m ∧ m < full.size ∧ (Hs m).length ≤ p ∧ p < (Hs (m + 1)).length := by
              intro d
              induction d with
              | zero => intro _ h; rw [Nat.add_zero] at h; omega
              | succ d ih =>
                intro hd h
                rcases Nat.lt_or_ge p (Hs (i + d)).length with h' | h'
                · exact ih (by omega) h'
                · exact ⟨i + d, by omega, by omega, h', h⟩
            exact this (full.size - i) (by omega) (by rw [show i + (full.size - i) = full.size by omega]; exact hlt)
          refine hI.un m hm2 ?_ p hm3 hm4
          cases hSm : S m with
          | false => rfl
          | true =>
            exfalso
            rcases h1 m hm2 (by rw [hSm]; simp; omega) with e | ⟨_, _, _, e | e⟩ <;> (have := htf.quiet m hm2 (by rw [e]; rfl); rw [this] at hm4; omega)
        · exact hI.st.hr.fresh p (by rw [hp_len]; exact hge)
      refine op_wp ht hst1 hok h fun ρ' a' w' hst => hK _ ρ' a' w' ⟨hmix, ?_, fun m hm hTm p g1 g2 => ?_, hsk fun id b n e => by rw [hti] at e; simp at e⟩
      · have e2 : ∀ p, gE (.cl (Hs i) (Hs (i + 1))) (Hs i) (Hs (i + 1)) p (val ts Hs S p full.size) = hg (Hs (i + 1)) p := by
          intro p
          simp only [gE, h2]
          by_cases e : hg (Hs (i + 1)) p = hg (Hs i) p ∧ (hg (Hs i) p).live = true
          · rw [if_pos e, e.1]
          · rw [if_neg e]
        refine hst.cast (fun p => by rw [htf.hg_hp, hput, hti, e2]) fun p hp => hst.hr.fresh p ?_
        rw [hp_len] at hp
        have := htf.lens (a := i + 1) (b := full.size) (by omega) (Nat.le_refl _)
        omega
      · obtain ⟨hSm, hne⟩ := hTf m hTm
        rcases Nat.lt_or_ge m i with hlt | hge
        · exfalso
          rcases h1 m hm (by rw [hSm]; simp; exact hlt) with e | ⟨_, _, _, e | e⟩ <;> (have := htf.quiet m hm (by rw [e]; rfl); rw [this] at g2; omega)
        · have := htf.lens (a := i + 1) (b := m) (by omega) (by omega)
          exact hst.hr.fresh p (by omega)
    | cl A B => exact (tcof_ncl htc).elim
    | mk =>
      rw [htc] at hti
      simp only [tcx] at hti
      subst hHi
      have hml := htf.mk1 i hi hti
      have hmx := htf.lens (a := i + 1) (b := full.size) (by omega) (Nat.le_refl _)
      have hnone : ρ (Hs i).length = none := hI.un i hi hSi _ (Nat.le_refl _) (by omega)
      have hdead : hg (hp ts Hs S full.size) (Hs i).length = .dead := by
        rw [htf.hg_hp]
        have e := htf.val_text (i := i) (Hs i).length full.size (Nat.le_refl _)
        rw [Nat.min_eq_left (by omega), hg_ge _ (Nat.le_refl _)] at e
        apply hd_dead
        rw [← e]
        refine (val_agree (a := 0) (b := 0) full.size fun m hm hne haf => ?_).1
        cases hh : ts m with
        | mk =>
          rw [hh] at haf; simp only [aff] at haf
          have := htf.mk1 m hm hh
          rcases Nat.lt_trichotomy m i with h | h | h
          · have := htf.lens (a := m + 1) (b := i) h (by omega); omega
          · subst h; rw [hSi] at hne; simp at hne
          · have := htf.lens (a := i + 1) (b := m) h (by omega); omega
        | st id b n => rw [hh] at haf; simp [aff] at haf
        | cl A B =>
          by_cases hSm : S m = true
          · have hge : ¬ m < i := by simpa [hSm] using hne
            have hgt : i < m := by
              rcases Nat.lt_or_ge i m with h | h
              · exact h
              · obtain rfl : i = m := by omega
                rw [hSi] at hSm; simp at hSm
            refine hhigh m hgt hSm ?_
            rw [hh, hti]; simp [clash]
          · have hSm' : S m = false := by simpa using hSm
            refine hlow m (by simpa [hSm'] using hne) hSm' ?_
            rw [hh, hti]; simp [clash]
        | bar =>
          by_cases hSm : S m = true
          · have hge : ¬ m < i := by simpa [hSm] using hne
            have hgt : i < m := by
              rcases Nat.lt_or_ge i m with h | h
              · exact h
              · obtain rfl : i = m := by omega
                rw [hSi] at hSm; simp at hSm
            refine hhigh m hgt hSm ?_
            rw [hh, hti]; simp [clash]
          · have hSm' : S m = false := by simpa using hSm
            refine hlow m (by simpa [hSm'] using hne) hSm' ?_
            rw [hh, hti]; simp [clash]
        | _ => rw [hh] at haf; simp [aff] at haf
      rw [astep_eop (.inl htc)] at h
      obtain ⟨ob, e1, w', L, he, vc, h1, h2⟩ := mk_run htc h (ops_rel hI.st (opnds o.op)) ⟨hI.st.hr, by rw [hp_len]; omega, hdead, hnone⟩
      simp only [Oper.wp, h1, Oper.upon]
      have hst := (hI.st.eff he).put (d := o.dst) hok h2
      refine hK _ (upd ρ (Hs i).length L) _ w' ⟨hmix, ?_, fun m hm hTm p g1 g2 => ?_, hsk fun id b n e => by rw [hti] at e; simp at e⟩
      · have e2 : hp ts Hs T full.size = (hp ts Hs S full.size).set (Hs i).length ob := by
          refine hg_ext (by simp [hp_len]) fun p => ?_
          rw [hg_set _ _ _ _ (by rw [hp_len]; omega), htf.hg_hp, htf.hg_hp, hput, hti]
          simp only [gE]
          split
          · subst_vars; rw [e1, hg_append, if_pos rfl]
          · rfl
        rw [e2]; exact hst
      · obtain ⟨hSm, hne⟩ := hTf m hTm
        have hp0 := hI.un m hm hSm p g1 g2
        rw [upd_ne _ _ ?_]
        · exact hp0
        · rintro rfl
          rcases Nat.lt_or_ge m i with hlt | hge
          · have := htf.lens (a := m + 1) (b := i) hlt (by omega); omega
          · have := htf.lens (a := i + 1) (b := m) (by omega) (by omega); omega
    | st id b n =>
      rw [htc] at hti
      simp only [tcx] at hti
      subst hHi
      rw [astep_eop (.inr ⟨_, _, _, htc⟩)] at h
      obtain ⟨t, x, y, ax, ver, l, hop, hv1, hcl, hn, hvv, hH', hown, hver, hlen, hsz, hoff, hone⟩ := store_inv htc h
      have hL := hptr _ _ _ _ hv1
      have hlt := hg_lt (AObj.owned_live hown)
      obtain ⟨s1, s2⟩ := hsee id b n hlt hL (.inr hti)
      obtain ⟨r1, r2, r3, r4⟩ := AObj.hd_row s1
      have hmx := htf.lens (a := i) (b := full.size) (by omega) (Nat.le_refl _)
      have heop : eop P o.op ((opnds o.op).map (ev fm)) (hp ts Hs S full.size) = some (.c .und, (hp ts Hs S full.size).set id ((hg (hp ts Hs S full.size) id).put (wr (hg (hp ts Hs S full.size) id).cells b l))) := by
        rw [hv1, hop]
        simp only [eop, hcl]
        rw [if_pos]
        rw [htf.hg_hp, r1, r2, r3]
        exact ⟨hown, hver, hlen, hsz, hoff, hone⟩
      obtain ⟨⟨w', he, h1, _⟩, _⟩ := store_run htc heop (ops_rel hI.st (opnds o.op)) hI.st.hr
      simp only [Oper.wp, h1, Oper.upon]
      have hst := (hI.st.eff he).put (d := o.dst) (v := .c .und) hok rfl
      refine hK _ ρ _ w' ⟨hmix, ?_, hun, hsk fun id' b' n' e => ?_⟩
      · have e2 : hp ts Hs T full.size = (hp ts Hs S full.size).set id ((hg (hp ts Hs S full.size) id).put (wr (hg (hp ts Hs S full.size) id).cells b l)) := by
          refine hg_ext (by simp [hp_len]) fun p => ?_
          rw [hg_set _ _ _ _ (by rw [hp_len]; omega)]
          simp only [htf.hg_hp, hput p, hti, gE]
          split
          · rename_i e0
            subst e0
            refine (put_on (by rw [r3]; exact hown) (by rw [hlen, hn]) (by rw [r2]; exact hoff) fun k g1 g2 => ?_).symm
            rw [hH', hg_set _ _ _ _ hlt, if_pos rfl]
            have e : ((hg (Hs i) p).put (wr (hg (Hs i) p).cells b l)).cells = wr (hg (Hs i) p).cells b l := by
              cases hh : hg (Hs i) p <;> rw [hh] at hown <;> simp [AObj.owned] at hown <;> rfl
            rw [e, wr_get hoff, if_pos ⟨g1, by omega⟩]
          · rfl
        rw [e2, hvv]; exact hst
      · rw [hti] at e; simp at e
        obtain ⟨rfl, rfl, rfl⟩ := e
        exact hfar id hL

end step

theorem draw_any (ht : TabOk P tab) (hmix : P.follows .mixedOrders = true) (full : Array Oper) (hq : ddr full = true) (hok : opsOk N full.toList = true) : DrawOk P tab N full := by
  intro id w0 M ρ fr H a w k Q R hs hrun hK
  obtain ⟨F, Hs, v, ts, hF0, hH0, htr, _, hfin⟩ := dr_gives full.toList 0 [] fr H (Nat.zero_le _) rfl hrun
  have htf := htr.tf ht
  have hdst : ∀ i o, full[i]? = some o → dstA full i = o.dst := fun i o h => by simp [dstA, h]
  subst hF0
  have htm : ∀ i, i ≤ full.size → Mix full v (F 0) (fun j => j < i) (F i) := by
    intro i
    induction i with
    | zero => intro _ s; exact ⟨fun j hj => by omega, fun _ => rfl⟩
    | succ i ih =>
      intro hi
      obtain ⟨o, ho, _, e⟩ := htr.step i (Nat.zero_le _) (by omega)
      obtain ⟨_, hj⟩ := ddr_spec hq ho
      rw [e]
      have := (ih (by omega)).put ho fun d hd j hji e => (hj j (by omega) d e).1 (by omega) hd
      intro s
      obtain ⟨g1, g2⟩ := this s
      exact ⟨fun j hj' => g1 j (by omega), fun h => g2 fun j hj' => h j (by omega)⟩
  refine wp_region_any hmix ?_
  -- any order
  have key : ∀ (fuel : Nat) (listed : Array Bool) (fm : Fr) (ρ : Ro) (a : Act) (w : World), listed.size = full.size → ((List.range full.size).countP fun j => !listed.getD j true) = fuel →
      (∀ j o, full[j]? = some o → listed.getD j false = true → ∀ e ∈ o.after, Region.binds .any e = true → listed.getD e.on false = true) →
      Inv full N w0 M (F 0) Hs v ts (fun j => listed.getD j false) fm ρ a w → wpAny P .any full R fuel listed a w := by
    intro fuel
    induction fuel with
    | zero =>
      intro listed fm ρ a w hsz hcnt hdown hI
      have hall : ∀ j, j < full.size → listed.getD j false = true := by
        intro j hj
        rw [List.countP_eq_zero] at hcnt
        have := hcnt j (by simpa using hj)
        simp [Array.getD_eq_getD_getElem?, hsz, hj] at this ⊢
        exact this
      refine ⟨?_, ?_⟩
      · unfold Region.ready
        rw [List.filter_eq_nil_iff]
        intro j hj
        have := hall j (by simpa using hj)
        have hj' : j < full.size := by simpa using hj
        simp [Array.getD_eq_getD_getElem?, hsz, hj'] at this ⊢
        simp [this]
      · have hst : St N w0 M ρ fm (Hs full.size) a w := by
          refine hI.st.cast (fun p => ?_) fun p hp => hI.st.hr.fresh p (by rw [hp_len]; exact hp)
          rw [htf.hg_hp]
          have e := htf.val_text (i := full.size) p full.size (Nat.le_refl _)
          rw [Nat.min_self] at e
          rw [← e]
          exact val_eq full.size fun m hm hne => (hne (by rw [hall m hm]; simp [hm])).elim
        refine hK _ _ hfin ρ a w ⟨fun s => ?_, hst.sz, hst.df, hst.hr, hst.kp, hst.ow, hst.st⟩
        have := hI.mix.get_eq (htm full.size (Nat.le_refl _)) (S' := fun j => j < full.size) (fun j => ⟨fun h => by
          rcases Nat.lt_or_ge j full.size with h' | h'
          · exact h'
          · simp [Array.getD_eq_getD_getElem?, Array.getElem?_eq_none (show listed.size ≤ j by omega)] at h, fun h => hall j h⟩) s
        rw [← this]; exact hst.fr s
    | succ fuel ih =>
      intro listed fm ρ a w hsz hcnt hdown hI
      have hbd : ∀ j, listed.getD j false = true → j < full.size := by
        intro j h
        rcases Nat.lt_or_ge j full.size with h' | h'
        · exact h'
        · simp [Array.getD_eq_getD_getElem?, Array.getElem?_eq_none (show listed.size ≤ j by omega)] at h
      refine ⟨fun hnil => ?_, fun i hi => ?_⟩
      · -- the first one that is not listed is ready
        exfalso
        have hex : ∃ j, j < full.size ∧ listed.getD j false = false := by
          have : 0 < (List.range full.size).countP fun j => !listed.getD j true := by omega
          obtain ⟨j, hj, hp⟩ := List.countP_pos_iff.1 this
          have hj' : j < full.size := by simpa using hj
          exact ⟨j, hj', by simp [Array.getD_eq_getD_getElem?, hsz, hj'] at hp ⊢; exact hp⟩
        obtain ⟨j, ⟨hj, hjl⟩, hmin⟩ : ∃ j, (j < full.size ∧ listed.getD j false = false) ∧ ∀ i, i < j → ¬ (i < full.size ∧ listed.getD i false = false) := by
          obtain ⟨j0, hj0⟩ := hex
          induction j0 using Nat.strongRecOn with
          | _ j0 ihj =>
            by_cases hx : ∃ i, i < j0 ∧ (i < full.size ∧ listed.getD i false = false)
            · obtain ⟨i, h1, h2⟩ := hx; exact ihj i h1 h2
            · exact ⟨j0, hj0, fun i hi hc => hx ⟨i, hi, hc⟩⟩
        have hmem : j ∈ Region.ready .any full listed := by
          unfold Region.ready
          rw [List.mem_filter]
          refine ⟨by simpa using hj, ?_⟩
          obtain ⟨o, ho⟩ : ∃ o, full[j]? = some o := ⟨full[j], by simp⟩
          obtain ⟨hed, _⟩ := ddr_spec hq ho
          have h1 : listed.getD j true = false := by simp [Array.getD_eq_getD_getElem?, hsz, hj] at hjl ⊢; exact hjl
          simp only [h1, Bool.not_false, Bool.true_and, ho, Option.map_some, Option.getD_some]
          rw [Array.all_eq_true']
          intro e he
          by_cases hb : Region.binds .any e = true
          · have hlt := hed e he hb
            have := hmin e.on hlt
            have : listed.getD e.on false = true := by
              cases hh : listed.getD e.on false with
              | true => rfl
              | false => exact (this ⟨by omega, hh⟩).elim
            simp [this]
          · simp at hb; simp [hb]
        rw [hnil] at hmem; simp at hmem
      · unfold Region.ready at hi
        rw [List.mem_filter] at hi
        obtain ⟨hir, hip⟩ := hi
        have hilt : i < full.size := by simpa using hir
        obtain ⟨o, ho⟩ : ∃ o, full[i]? = some o := ⟨full[i], by simp⟩
        simp only [Bool.and_eq_true, Bool.not_eq_true', ho, Option.map_some, Option.getD_some] at hip
        obtain ⟨hil, hie⟩ := hip
        have hil' : listed.getD i false = false := by simp [Array.getD_eq_getD_getElem?, hsz, hilt] at hil ⊢; exact hil
        have hedges : ∀ e ∈ o.after, Region.binds .any e = true → listed.getD e.on false = true := by
          intro e he hb
          have := Array.all_eq_true'.1 hie e he
          simpa [hb] using this
        obtain ⟨hed, hj⟩ := ddr_spec hq ho
        -- the operation's step at this frame
        have hagree : ∀ t ∈ looks full o, Am.get fm t = Am.get (F i) t := by
          intro t hlt
          by_cases hx : ∃ j, j < full.size ∧ dstA full j = some t
          · obtain ⟨j, hjs, hjd⟩ := hx
            obtain ⟨_, h3⟩ := hj j hjs t hjd
            obtain ⟨hne, hlow, hhigh⟩ := h3 hlt
            rcases Nat.lt_or_ge j i with hji | hji
            · obtain ⟨o', ho', e, he, hon, hb⟩ := edge_spec (hlow hji)
              rw [ho] at ho'; simp at ho'; subst ho'
              have hlj : listed.getD j false = true := by rw [← hon]; exact hedges e he hb
              rw [(hI.mix t).1 j hlj hjd, (htm i (by omega) t).1 j hji hjd]
            · obtain ⟨o', ho', e, he, hon, hb⟩ := edge_spec (hhigh (by omega))
              have uniq : ∀ m, m < full.size → dstA full m = some t → m = j := by
                intro m hms hmd
                rcases Nat.decEq m j with h | h
                · obtain ⟨om, hom⟩ : ∃ om, full[m]? = some om := ⟨full[m], by simp⟩
                  obtain ⟨_, hjm⟩ := ddr_spec hq hom
                  exact ((hjm j hjs t hjd).1 h (by rw [← hdst m om hom, hmd])).elim
                · exact h
              have hnl : ¬ listed.getD j false = true := by
                intro hl
                have := hdown j o' ho' hl e he hb
                rw [hon, hil'] at this; simp at this
              rw [(hI.mix t).2 (fun m hml hmd => hnl (by rw [← uniq m (hbd m hml) hmd]; exact hml)),
                (htm i (by omega) t).2 (fun m hmi hmd => by have := uniq m (by omega) hmd; omega)]
          · have hno : ∀ j, j < full.size → dstA full j ≠ some t := fun j hj e => hx ⟨j, hj, e⟩
            rw [(hI.mix t).2 (fun j hjl => hno j (hbd j hjl)), (htm i (by omega) t).2 (fun j hji => hno j (by omega))]
        have hok' : dstOk N o.dst = true := by
          have := List.all_eq_true.1 hok o (by rw [← Array.getElem?_toList] at ho; exact List.mem_of_getElem? ho)
          exact this
        have hlisted : ∀ j, (listed.setIfInBounds i true).getD j false = (listed.getD j false || decide (j = i)) := by
          intro j
          simp only [Array.getD_eq_getD_getElem?, Array.getElem?_setIfInBounds]
          by_cases hji : i = j
          · subst hji; simp [hsz, hilt]
          · rw [if_neg hji, decide_eq_false (fun e : j = i => hji e.symm), Bool.or_false]
        -- what is not tied may be exchanged
        have hlow : ∀ m, m < i → listed.getD m false = false → ¬ clash (ts i) (ts m) := by
          intro m hm hmf hc
          have htd := htr.tie i m (Nat.zero_le _) hm hilt hc
          have := tied_spec (S := fun j => listed.getD j false = true ∨ j = i) (fun j oj hoj hSj e he hb => ?_) htd (.inr rfl)
          · rcases this with h | h
            · rw [hmf] at h; simp at h
            · omega
          · rcases hSj with h | rfl
            · exact .inl (hdown j oj hoj h e he hb)
            · rw [ho] at hoj; simp at hoj; subst hoj; exact .inl (hedges e he hb)
        have hhigh : ∀ m, i < m → listed.getD m false = true → ¬ clash (ts m) (ts i) := by
          intro m hm hmt hc
          have htd := htr.tie m i (Nat.zero_le _) hm (hbd m hmt) hc
          have := tied_spec (S := fun j => listed.getD j false = true) hdown htd hmt
          rw [hil'] at this; simp at this
        have hstep := draw_step (T := fun j => (listed.setIfInBounds i true).getD j false) ht htr hilt ho hok' hil' hlisted hbd hagree hlow hhigh
          (fun d hd j hjl e => (hj j (hbd j hjl) d e).1 (by rintro rfl; simp only [hil'] at hjl; simp at hjl) hd) hI
          (R := wpAny P .any full R fuel (listed.setIfInBounds i true)) (Q := R) (fun fm' ρ' a' w' hI' => by
            refine ih _ fm' ρ' a' w' (by simpa using hsz) ?_ ?_ hI'
            · have hc := (count_one (fun j => !listed.getD j true) (fun j => !(listed.setIfInBounds i true).getD j true) i (by simp only [hil, Bool.not_false]) (by simp [Array.getD_eq_getD_getElem?, hsz, hilt]) (fun j hji => by
                simp only [Array.getD_eq_getD_getElem?, Array.getElem?_setIfInBounds]
                rw [if_neg (fun e => hji e.symm)]) full.size).1 hilt
              omega
            · intro j oj hoj hlj e he hb
              rw [hlisted] at hlj ⊢
              simp only [Bool.or_eq_true, decide_eq_true_eq] at hlj ⊢
              rcases hlj with hlj | rfl
              · exact .inl (hdown j oj hoj hlj e he hb)
              · rw [ho] at hoj; simp at hoj; subst hoj
                exact .inl (hedges e he hb))
        unfold wpOp
        rw [ho]
        simp only
        cases hw : Region.wanted o (yielded full a.tmps) with
        | true => rw [if_pos rfl]; exact .inl (hstep.1 hw)
        | false => rw [if_neg (by simp)]; exact hstep.2 hw
  have hst0 : St N w0 M ρ (F 0) H a { w with drawn := w.drawn + 1 } := ⟨hs.fr, hs.sz, hs.df, hs.hr.drew, hs.kp.drew, hs.ow, hs.st⟩
  have hnone : ∀ j, (Array.replicate full.size false).getD j false = false := by
    intro j
    simp only [Array.getD_eq_getD_getElem?, Array.getElem?_replicate]
    split <;> rfl
  refine key full.size (Array.replicate full.size false) (F 0) ρ a _ (by simp) ?_ ?_ ⟨?_, ?_, ?_, ?_⟩
  · rw [List.countP_eq_length.2]
    · simp
    · intro j hj
      have hj' : j < full.size := by simpa using hj
      simp [Array.getD_eq_getD_getElem?, hj']
  · intro j o ho hl
    rw [hnone] at hl; simp at hl
  · intro s
    refine ⟨fun j hj => ?_, fun _ => rfl⟩
    have hj : (Array.replicate full.size false).getD j false = true := hj
    rw [hnone] at hj; simp at hj
  · refine hst0.cast (fun p => ?_) fun p hp => ?_
    · rw [htf.hg_hp, ← hH0]
      have e := htf.val_text (i := 0) p full.size (Nat.le_refl _)
      rw [Nat.zero_min] at e
      rw [← e]
      exact val_eq full.size fun m hm hne => (hne (by rw [hnone]; simp)).elim
    · rw [hp_len] at hp
      have := htf.lens (a := 0) (b := full.size) (Nat.zero_le _) (Nat.le_refl _)
      exact hs.hr.fresh p (by rw [← hH0]; omega)
  · intro m hm _ p h1 _
    have := htf.lens (a := 0) (b := m) (Nat.zero_le _) (by omega)
    exact hs.hr.fresh p (by rw [← hH0]; omega)
  · intro m hm hS
    rw [hnone] at hS; simp at hS

end Go.Am

/- States that are covered by others; contracts, ready to use. -/
namespace Go.Am
variable {P : Program} {tab : Tab}

def Sc.bel (n : Nat) : Sc → Bool
  | .p id _ _ => decide (id < n)
  | .sl id _ _ _ => decide (id < n)
  | .f _ cs => cs.all fun c => decide (c.1 < n)
  | _ => true
def AV.bel (n : Nat) : AV → Bool
  | .c s => s.bel n
  | .g l => l.all (Sc.bel n)
  | .t l => l.all fun x => match x with | .c s => s.bel n | .g l => l.all (Sc.bel n) | .t _ => true
def cut (ρ : Ro) (n : Nat) : Ro := fun i => if i < n then ρ i else none

theorem PRel.cut {ρ : Ro} {id off ver n : Nat} {v : Value} (h : PRel ρ id off ver v) (hb : id < n) : PRel (cut ρ n) id off ver v := by
  obtain ⟨L, a, h1, h2⟩ := h; exact ⟨L, a, by simp [Am.cut, hb, h1], h2⟩
theorem SRel.cut {ρ : Ro} {s : Sc} {v : Value} {n : Nat} (h : SRel ρ s v) (hb : s.bel n = true) : SRel (Am.cut ρ n) s v := by
  cases s <;> try exact h
  · exact PRel.cut h (by simpa [Sc.bel] using hb)
  · rename_i id off ver len
    obtain ⟨L, b, c, h1, h2⟩ := h
    refine ⟨L, b, c, ?_, h2⟩
    have : id < n := by simpa [Sc.bel] using hb
    simp [Am.cut, this, h1]
  · obtain ⟨cv, h1, h2⟩ := h
    refine ⟨cv, h1, ?_⟩
    simp only [Sc.bel] at hb
    clear h1
    induction h2 with
    | nil => exact .nil
    | cons h _ ih => simp only [List.all_cons, Bool.and_eq_true, decide_eq_true_eq] at hb; exact .cons (PRel.cut h hb.1) (ih hb.2)
theorem L2.cut {ρ : Ro} {n : Nat} {l : List Sc} {c : List Value} (h : L2 (SRel ρ) l c) (hb : l.all (Sc.bel n) = true) : L2 (SRel (Am.cut ρ n)) l c := by
  induction h with
  | nil => exact .nil
  | cons h _ ih => simp only [List.all_cons, Bool.and_eq_true] at hb; exact .cons (h.cut hb.1) (ih hb.2)
theorem VRel.cut {ρ : Ro} {n : Nat} {x : AV} {v : Value} (h : VRel ρ x v) (hb : x.bel n = true) : VRel (Am.cut ρ n) x v := by
  cases x with
  | c s => exact SRel.cut h hb
  | g l => obtain ⟨cs, h1, h2⟩ := h; exact ⟨cs, h1, h2.cut hb⟩
  | t l =>
    obtain ⟨vs, h1, h2⟩ := h
    refine ⟨vs, h1, ?_⟩
    simp only [AV.bel] at hb
    clear h1
    induction h2 with
    | nil => exact .nil
    | @cons a b l m h _ ih =>
      simp only [List.all_cons, Bool.and_eq_true] at hb
      refine .cons ?_ (ih hb.2)
      cases a with
      | c s => exact SRel.cut h hb.1
      | g l => obtain ⟨cs, h1, h2⟩ := h; exact ⟨cs, h1, h2.cut hb.1⟩
      | t l => exact h

theorem ORel.cut {ρ : Ro} {w : World} {i n : Nat} {o : AObj} (h : ORel ρ w i o) (hi : i < n) (hb : o.cells.all (Sc.bel n) = true) : ORel (Am.cut ρ n) w i o := by
  have hc : Am.cut ρ n i = ρ i := by simp [Am.cut, hi]
  cases o with
  | own cs => obtain ⟨L, c, t, h1, h2, h3, h4, h5, h6, h7⟩ := h; exact ⟨L, c, t, by rw [hc, h1], h2, h3, h4, h5, h6, h7.cut hb⟩
  | vec sz cs =>
    obtain ⟨L, h1, h2, h3, h4, h5, h6⟩ := h
    refine ⟨L, by rw [hc, h1], h2, h3, h4, h5, ?_⟩
    split
    · rename_i hn; rw [if_pos hn] at h6; exact h6
    · rename_i hn; rw [if_neg hn] at h6
      obtain ⟨c, d, t, h7, h8, h9⟩ := h6
      exact ⟨c, d, t, h7, h8, h9.cut hb⟩
  | view cs =>
    obtain ⟨L, h1, h2, h3, h4, h5, h6⟩ := h
    refine ⟨L, by rw [hc, h1], h2, h3, h4, h5, fun j s hjs => ?_⟩
    obtain ⟨v, h7, h8⟩ := h6 j s hjs
    exact ⟨v, h7, h8.cut (List.all_eq_true.1 hb s (List.mem_of_getElem? hjs))⟩
  | dead => trivial

theorem get_mem {fr : Fr} {s : Nat} : Am.get fr s = .c .any ∨ (s, Am.get fr s) ∈ fr := by
  induction fr with
  | nil => exact .inl rfl
  | cons p fr ih =>
    obtain ⟨d, v⟩ := p
    simp only [Am.get]
    split
    · subst_vars; exact .inr (by simp)
    · rcases ih with h | h
      · exact .inl h
      · exact .inr (by simp [h])

/-- objects that are forgotten, or as they were -/
def subH : AH → AH → Prop
  | [], _ => True
  | o' :: r', o :: r => (o' = .dead ∨ o' = o) ∧ subH r' r
  | _ :: _, [] => False
theorem subH_get {H' H : AH} (h : subH H' H) : H'.length ≤ H.length ∧ ∀ i, hg H' i = .dead ∨ hg H' i = hg H i := by
  induction H' generalizing H with
  | nil => exact ⟨by simp, fun i => .inl (by simp [hg])⟩
  | cons o' r' ih =>
    cases H with
    | nil => exact h.elim
    | cons o r =>
      obtain ⟨h1, h2⟩ := h
      obtain ⟨h3, h4⟩ := ih h2
      refine ⟨by simp; omega, fun i => ?_⟩
      cases i with
      | zero => simpa [hg] using h1
      | succ i => simpa [hg] using h4 i

/-- slots and objects are forgotten -/
theorem Wk.wk {n : Nat} {fr fr' : Fr} {H H' : AH} (hn : n ≤ H'.length) (hf : ∀ p ∈ fr', Am.get fr p.1 = p.2) (hb : (fr'.all fun p => p.2.bel H'.length) = true) (hH : subH H' H) (ho : (H'.all fun o => o.cells.all (Sc.bel H'.length)) = true) :
    Wk n fr H (fr', H') := by
  intro ρ w tm h1 h2
  obtain ⟨hlen, hget⟩ := subH_get hH
  have hown : ∀ i, (hg H' i).owned = true → hg H' i = hg H i := by
    intro i hi
    rcases hget i with e | e
    · rw [e] at hi; simp [AObj.owned] at hi
    · exact e
  have hlive : ∀ i, (hg H' i).live = true → hg H' i = hg H i := by
    intro i hi
    rcases hget i with e | e
    · rw [e] at hi; simp [AObj.live] at hi
    · exact e
  refine ⟨Am.cut ρ H'.length, fun s => ?_, ⟨fun i => ?_, fun i j Li Lj hij hio hLi hni hjl hLj hnj => ?_, fun i hi => ?_⟩, fun i L hi hL hnL => ?_, fun i hi => by simp only [Am.cut]; rw [if_pos (Nat.lt_of_lt_of_le hi hn)]⟩
  · rcases get_mem (fr := fr') (s := s) with h | h
    · show VRel _ (Am.get fr' s) _
      rw [h]; trivial
    · show VRel _ (Am.get fr' s) _
      have e := hf _ h
      have hbel := List.all_eq_true.1 hb _ h
      have := h1 s
      simp only at e
      rw [e] at this
      exact this.cut hbel
  · rcases Nat.lt_or_ge i H'.length with hi | hi
    · show ORel _ _ _ (hg H' i)
      rcases hget i with e | e
      · rw [e]; trivial
      · have hO := h2.obj i
        rw [← e] at hO
        refine hO.cut hi ?_
        have : hg H' i ∈ H' := by
          unfold hg; rw [List.getD_eq_getElem?_getD, List.getElem?_eq_getElem hi]; simp
        exact List.all_eq_true.1 ho _ this
    · show ORel _ _ _ (hg H' i)
      rw [hg_ge _ hi]; trivial
  · have hi := hg_lt (AObj.owned_live hio)
    have hj := hg_lt hjl
    simp only at hi hj hio hjl
    rw [hown i hio] at hio
    rw [hlive j hjl] at hjl
    exact h2.sep i j Li Lj hij hio (by simpa [Am.cut, hi] using hLi) hni hjl (by simpa [Am.cut, hj] using hLj) hnj
  · simp only [Am.cut]; rw [if_neg (by simp at hi; omega)]
  · have hlt := hg_lt (AObj.owned_live hi)
    simp only at hi hlt
    exact ⟨i, by rw [← hown i hi]; exact hi, by simpa [Am.cut, hlt] using hL⟩

theorem subH_take {H H' : AH} (h : H.take H'.length = H') : subH H' H := by
  induction H' generalizing H with
  | nil => trivial
  | cons o r ih =>
    cases H with
    | nil => simp at h
    | cons x y => simp only [List.length_cons, List.take_succ_cons, List.cons.injEq] at h; exact ⟨.inr h.1.symm, ih h.2⟩
/-- slots and the last objects are forgotten -/
theorem Wk.drop {fr fr' : Fr} {H H' : AH} (hf : ∀ p ∈ fr', Am.get fr p.1 = p.2) (hb : (fr'.all fun p => p.2.bel H'.length) = true) (hH : H.take H'.length = H') (ho : (H'.all fun o => o.cells.all (Sc.bel H'.length)) = true) :
    Wk 0 fr H (fr', H') := Wk.wk (Nat.zero_le _) hf hb (subH_take hH) ho

theorem Wk.trans {n : Nat} {fr : Fr} {H : AH} {S T : Fr × AH} (h : Wk n fr H S) (h' : Wk n S.1 S.2 T) : Wk n fr H T := by
  intro ρ w tm h1 h2
  obtain ⟨ρ1, a1, a2, a3, a4⟩ := h ρ w tm h1 h2
  obtain ⟨ρ2, b1, b2, b3, b4⟩ := h' ρ1 w tm a1 a2
  refine ⟨ρ2, b1, b2, fun i L hi hL hn => ?_, fun i hi => by rw [b4 i hi, a4 i hi]⟩
  obtain ⟨j, hj, hL'⟩ := b3 i L hi hL hn
  exact a3 j L hj hL' hn

/-- a nil slice is a row of nothing -/
theorem Wk.nil {n : Nat} {fr : Fr} {H : AH} (d sz : Nat) (hsz : 0 < sz) (hd : Am.get fr d = .c .nils) (hn : n ≤ H.length) : Wk n fr H ((d, .c (.sl H.length 0 0 0)) :: fr, H ++ [.vec sz []]) := by
  intro ρ w tm h1 h2
  have hst : Stab ρ (upd ρ H.length ⟨0, 0, 0, 0, true, true⟩) := by
    intro i Li hi
    have : i ≠ H.length := by rintro rfl; rw [h2.fresh _ (Nat.le_refl _)] at hi; simp at hi
    exact ⟨Li, by rw [upd_ne _ _ this, hi], .inl rfl⟩
  refine ⟨upd ρ H.length ⟨0, 0, 0, 0, true, true⟩, fun s => ?_, ⟨fun i => ?_, fun i j Li Lj hij hio hLi hni hjl hLj hnj => ?_, fun i hi => ?_⟩, fun i L hi hL hnL => ?_, fun i hi => upd_ne _ _ (by omega)⟩
  · simp only [Am.get]
    split
    · rename_i hds
      rw [← hds]
      have := h1 d
      rw [hd] at this
      have e : tm d = .slice none 0 0 := this
      rw [e]
      refine ⟨_, none, 0, upd_same _ _ _, rfl, by simp, by omega, by omega, Nat.le_refl _, fun _ => ?_⟩
      rw [if_pos rfl]; simp
    · exact (h1 s).mono hst
  · rw [hg_append]
    split
    · subst_vars
      refine ⟨_, upd_same _ _ _, rfl, rfl, rfl, hsz, ?_⟩
      rw [if_pos rfl]; simp
    · rename_i hne
      exact (h2.obj i).keep hst (upd_ne _ _ hne) (fun _ _ _ _ => rfl) (Nat.le_refl _)
  · have hni' : i ≠ H.length := by rintro rfl; rw [upd_same] at hLi; simp at hLi; subst hLi; simp at hni
    have hnj' : j ≠ H.length := by rintro rfl; rw [upd_same] at hLj; simp at hLj; subst hLj; simp at hnj
    rw [hg_append, if_neg hni'] at hio
    rw [hg_append, if_neg hnj'] at hjl
    rw [upd_ne _ _ hni'] at hLi
    rw [upd_ne _ _ hnj'] at hLj
    exact h2.sep i j Li Lj hij hio hLi hni hjl hLj hnj
  · simp at hi
    rw [upd_ne _ _ (by omega)]; exact h2.fresh i (by omega)
  · have hni' : i ≠ H.length := by rintro rfl; rw [upd_same] at hL; simp at hL; subst hL; simp at hnL
    rw [hg_append, if_neg hni'] at hi
    rw [upd_ne _ _ hni'] at hL
    exact ⟨i, hi, hL⟩

/-- A function of values alone. -/
theorem pu_ok {f : Nat} {fn : Func} {code : Code} {rs : List ResultVar} {n : Nat} {s : List AV → Option AV} (hmix : P.follows .mixedOrders = true) (ht : TabOk P tab)
    (hf : P.funcs[f]? = some fn) (hb : fn.body = some code) (hrs : fn.results = rs.toArray) (hn : fn.ntmps = n) (hname : (fn.name == "runtime.NumGoroutine") = false) (hok : okC n ddr code = true)
    (h : ∀ args v, s args = some v → args.length ≤ n ∧ args.all AV.pf = true ∧ v.pf = true ∧ arun P tab [.c code] (frA 0 args) [] (fun fr H => resA P fr H rs = some v)) : PuOk P f s :=
  pu_of_arun ddr hf hb hrs hn hname ht (fun ops h1 h2 => draw_any ht hmix ops h1 h2) hok h

theorem Keep.grown {w w' : World} (h : Keep w (fun _ => False) w') : RowKit.Grown w w' := by
  refine ⟨⟨h.os, h.output, fun i hi => ?_⟩, fun a => ?_, h.size⟩
  · rw [h.old i hi (fun f => f)]
    split <;> simp_all
  · rcases Nat.lt_or_ge a.block w.heap.size with hl | hg
    · simp only [World.frozen?]; rw [h.old _ hl (fun f => f)]
    · have e1 : w.frozen? a = false := by simp [World.frozen?, Array.getElem?_eq_none hg]
      rw [e1]
      unfold World.frozen?
      split
      · rename_i c t lo hi heq
        have := h.free _ _ _ _ heq (.inl hg)
        simp at this; obtain ⟨rfl, rfl⟩ := this; simp
      · rfl

/-! ### functions that are given addresses -/
theorem SRel.bel {ρ : Ro} {s : Sc} {v : Value} {n : Nat} (h : SRel ρ s v) (hf : ∀ i, n ≤ i → ρ i = none) : s.bel n = true := by
  have key : ∀ id L, ρ id = some L → id < n := by
    intro id L hL
    rcases Nat.lt_or_ge id n with h | h
    · exact h
    · rw [hf id h] at hL; simp at hL
  cases s <;> try rfl
  · obtain ⟨L, a, h1, _⟩ := (show PRel _ _ _ _ _ from h)
    simp only [Sc.bel, decide_eq_true_eq]; exact key _ _ h1
  · obtain ⟨L, b, c, h1, _⟩ := (show SlRel _ _ _ _ _ _ from h)
    simp only [Sc.bel, decide_eq_true_eq]; exact key _ _ h1
  · obtain ⟨cv, hv, h2⟩ := h
    clear hv
    simp only [Sc.bel]
    induction h2 with
    | nil => rfl
    | cons h _ ih =>
      obtain ⟨L, a, h1, _⟩ := h
      rw [List.all_cons, Bool.and_eq_true]
      exact ⟨by simpa using key _ _ h1, ih⟩
theorem L2.bel {ρ : Ro} {l : List Sc} {c : List Value} {n : Nat} (h : L2 (SRel ρ) l c) (hf : ∀ i, n ≤ i → ρ i = none) : l.all (Sc.bel n) = true := by
  induction h with
  | nil => rfl
  | cons h _ ih => simp only [List.all_cons, ih, Bool.and_true]; exact h.bel hf
theorem VRel.bel {ρ : Ro} {x : AV} {v : Value} {n : Nat} (h : VRel ρ x v) (hf : ∀ i, n ≤ i → ρ i = none) : x.bel n = true := by
  cases x with
  | c s => exact SRel.bel h hf
  | g l => obtain ⟨cs, _, h2⟩ := h; exact h2.bel hf
  | t l =>
    obtain ⟨vs, h1, h2⟩ := h
    simp only [AV.bel]
    clear h1
    induction h2 with
    | nil => rfl
    | @cons a b l m h _ ih =>
      simp only [List.all_cons, ih, Bool.and_true]
      cases a with
      | c s => exact SRel.bel h hf
      | g l => obtain ⟨cs, _, h2⟩ := h; exact h2.bel hf
      | t l => rfl
def belH (H : AH) : Bool := H.all fun o => o.cells.all (Sc.bel H.length)
theorem HR.bel {ρ : Ro} {w : World} {H : AH} (h : HR ρ w H) : belH H = true := by
  unfold belH
  rw [List.all_eq_true]
  intro o ho
  obtain ⟨i, hi⟩ := List.getElem?_of_mem ho
  have hO := h.obj i
  have e : hg H i = o := by simp [hg, List.getD_eq_getElem?_getD, hi]
  rw [e] at hO
  cases o with
  | own cs => obtain ⟨L, c, t, _, _, _, _, _, _, h7⟩ := hO; exact h7.bel h.fresh
  | vec sz cs =>
    obtain ⟨L, _, _, _, _, _, h6⟩ := hO
    split at h6
    · simp only [AObj.cells]; simp_all
    · obtain ⟨c, d, t, _, _, h9⟩ := h6; exact h9.bel h.fresh
  | view cs =>
    obtain ⟨L, _, _, _, _, _, h6⟩ := hO
    simp only [AObj.cells]
    rw [List.all_eq_true]
    intro s hs
    obtain ⟨j, hj⟩ := List.getElem?_of_mem hs
    obtain ⟨v, _, h8⟩ := h6 j s hj
    exact h8.bel h.fresh
  | dead => rfl

theorem HR.frozen {ρ : Ro} {w : World} {H : AH} (h : HR ρ w H) : ∀ b c t f, w.heap[b]? = some (.cells c t f) → Owns ρ H b → f = (0, 0) := by
  rintro b c t f hb ⟨i, L, h1, h2, h3, rfl⟩
  have hO := h.obj i
  generalize hg H i = o at hO h1
  cases o with
  | own cs =>
    obtain ⟨L', c', t', g1, _, _, _, _, g6, _⟩ := hO
    rw [h2] at g1; simp at g1; subst g1
    rw [hb] at g6; simp at g6; exact g6.2.2
  | vec sz cs =>
    obtain ⟨L', g1, _, _, _, _, g6⟩ := hO
    rw [h2] at g1; simp at g1; subst g1
    rw [if_neg (by simp [h3])] at g6
    obtain ⟨c', d, t', g7, _, _⟩ := g6
    rw [hb] at g7; simp at g7; exact g7.2.2
  | view cs => simp [AObj.owned] at h1
  | dead => simp [AObj.owned] at h1

/-- A function that is given addresses: its contract out of its run, from any heap on. -/
theorem fp_ok {f : Nat} {fn : Func} {code : Code} {rs : List ResultVar} {n : Nat} {s : List AV → AH → Option (AV × AH)} (hmix : P.follows .mixedOrders = true) (ht : TabOk P tab)
    (hf : P.funcs[f]? = some fn) (hb : fn.body = some code) (hrs : fn.results = rs.toArray) (hn : fn.ntmps = n) (hname : (fn.name == "runtime.NumGoroutine") = false) (hok : okC n ddr code = true)
    (hle : ∀ args H v H1, s args H = some (v, H1) → H.length ≤ H1.length) (h : ∀ args H v H1, s args H = some (v, H1) → (args.all (AV.bel H.length)) = true → belH H = true → args.length ≤ n ∧
      arun P ((1000000, .lo H.length) :: tab) [.c code] (frA 0 args) H (fun fr H' => ∃ v', resA P fr H' rs = some v' ∧ Wk H.length [(0, v')] H' ([(0, v)], H1))) : FpOk P f s := by
  obtain rfl : fn.results.toList = rs := by rw [hrs]
  subst hn
  refine ⟨fun args w => ?_, hle, fun args H v H1 hs ρ w cs hcs hH => ?_⟩
  · have hn : ¬ fn.name = "runtime.NumGoroutine" := by simpa using hname
    simp [callFunc, hf, hn, hb]
  · have hbel : args.all (AV.bel H.length) = true := by
      clear hs
      induction hcs with
      | nil => rfl
      | cons h _ ih => simp only [List.all_cons, ih, Bool.and_true]; exact h.bel hH.fresh
    obtain ⟨h1, h4⟩ := h args H v H1 hs hbel hH.bel
    have hlen := hcs.length
    have ht' : TabOk P ((1000000, .lo H.length) :: tab) := TabOk.cons (e := .lo H.length) trivial ht
    refine calls_of_wp hf hb ?_
    have hst : St fn.ntmps w ⟨Owns ρ H, H.length, ρ⟩ ρ (frA 0 args) H { tmps := cs.toArray ++ Array.replicate (fn.ntmps - cs.toArray.size) undef, defers := [] } w := by
      refine ⟨fun x => ?_, by simp; omega, rfl, hH, Keep.refl w _ hH.frozen, fun i L h1 h2 h3 => .inl ⟨i, L, h1, h2, h3, rfl⟩, fun i _ L hL => ⟨L, hL, .inl rfl⟩⟩
      have := get_frA args cs hcs 0 x
      rw [if_pos (Nat.zero_le _), Nat.sub_zero] at this
      have e : (cs.toArray ++ Array.replicate (fn.ntmps - cs.toArray.size) undef).getD x undef = cs.getD x undef := by
        rw [Array.getD_eq_getD_getElem?, List.getD_eq_getElem?_getD, Array.getElem?_append]
        split
        · simp
        · rename_i hx
          simp at hx
          rw [List.getElem?_eq_none hx, Array.getElem?_replicate]
          split <;> rfl
      rw [e]; exact this
    have hkp := sound (M := ⟨Owns ρ H, H.length, ρ⟩) (Nat.le_refl _) ht' ddr (fun ops h1 h2 => draw_any ht' hmix ops h1 h2) (kwt [.c code]) [.c code] (Nat.le_refl _) (by
        simp only [okK, List.all_cons, List.all_nil, Bool.and_true, okI]
        exact hok) _ _ h4 _ _ _ hst
    refine wp_mono (show code.wp P (Kp P fn.ntmps w ⟨Owns ρ H, H.length, ρ⟩ _ []) _ w from hkp) ?_
    intro e a2 w2 hq
    have fin : SI fn.ntmps w ⟨Owns ρ H, H.length, ρ⟩ (fun fr H' => ∃ v', resA P fr H' fn.results.toList = some v' ∧ Wk H.length [(0, v')] H' ([(0, v)], H1)) a2 w2 → a2.defers = [] ∧ ∃ v', (results fn a2.tmps).run P w2 = .ok v' w2 ∧
        ∃ vc ρ', Ending.returned v' = .returned vc ∧ VRel ρ' v vc ∧ HR ρ' w2 H1 ∧ Stab ρ ρ' ∧ Keep w (Owns ρ H) w2 ∧ (∀ b, Owns ρ' H1 b → Owns ρ H b ∨ w.heap.size ≤ b) := by
      rintro ⟨ρ2, fr2, H2, hs2, v', hres, hwk⟩
      obtain ⟨vc, h5, h6⟩ := resA_run (P := P) hres hs2.fr hs2.hr.obj
      obtain ⟨ρ3, g1, g2, g3, g4⟩ := hwk ρ2 w2 (fun x => if x = 0 then vc else undef) (fun x => by
        simp only [Am.get]
        by_cases e : 0 = x
        · subst e; simpa using h6
        · rw [if_neg e]; trivial) hs2.hr
      have hv : VRel ρ3 v vc := by have := g1 0; simpa [Am.get] using this
      refine ⟨hs2.df, vc, h5, vc, ρ3, rfl, hv, g2, fun i L hL => ?_, hs2.kp, ?_⟩
      · have hi : i < H.length := by
          rcases Nat.lt_or_ge i H.length with h | h
          · exact h
          · rw [hH.fresh i h] at hL; simp at hL
        rw [g4 i hi]; exact hs2.st i hi L hL
      · rintro b ⟨i, L, e1, e2, e3, rfl⟩
        obtain ⟨j, e4, e5⟩ := g3 i L e1 e2 e3
        exact hs2.ow j L e4 e5 e3
    cases e <;> first | exact fin hq | exact hq.elim

theorem subH_refl (H : AH) : subH H H := by
  induction H with
  | nil => trivial
  | cons o r ih => exact ⟨.inr rfl, ih⟩
theorem subH_app (H X : AH) : subH H (H ++ X) := by
  induction H with
  | nil => trivial
  | cons o r ih => exact ⟨.inr rfl, ih⟩

/-- what comes behind a run, weakened -/
theorem arun_mono {P : Program} {tab : Tab} {Q R : Fr → AH → Prop} (h : ∀ fr H, Q fr H → R fr H) : ∀ (n : Nat) (k : List It), kwt k ≤ n → ∀ fr H, arun P tab k fr H Q → arun P tab k fr H R := by
  intro n
  induction n with
  | zero =>
    intro k hk fr H hr
    cases k with
    | nil => rw [arun_nil] at hr ⊢; exact h _ _ hr
    | cons x k => exfalso; cases x <;> simp [kwt, It.wt] at hk; rename_i c; cases c <;> simp [cwt] at hk
  | succ n ih =>
    intro k hk fr H hr
    cases k with
    | nil => rw [arun_nil] at hr ⊢; exact h _ _ hr
    | cons x k =>
      cases x with
      | blk id => rw [arun_blk] at hr ⊢; exact ih k (by simp [kwt, It.wt] at hk ⊢; omega) _ _ hr
      | back I => rw [arun_back] at hr ⊢; exact hr
      | scp => rw [arun_scp] at hr ⊢; exact ih k (by simp [kwt, It.wt] at hk ⊢; omega) _ _ hr
      | scj l J => rw [arun_scj] at hr ⊢; exact ih k (by simp [kwt, It.wt] at hk ⊢; omega) _ _ hr
      | ops full l =>
        cases l with
        | nil => rw [arun_ops_nil] at hr ⊢; exact ih k (by simp [kwt, It.wt] at hk ⊢; omega) _ _ hr
        | cons o l =>
          have go : ∀ fr H, arun P tab (.ops full l :: k) fr H Q → arun P tab (.ops full l :: k) fr H R := fun fr H hr => ih (.ops full l :: k) (by simp [kwt, It.wt] at hk ⊢; omega) _ _ hr
          rw [arun_op] at hr ⊢
          split at hr
          · split at hr
            · exact go _ _ hr
            · exact hr.elim
          · split at hr
            · split at hr
              · rename_i e; simp only [e, if_true]
                split at hr
                · exact go _ _ hr
                · exact hr.elim
              · rename_i e; simp only [e, if_false]; exact go _ _ hr
            · exact go _ _ hr
            · exact hr.elim
      | dr full l i log =>
        cases l with
        | nil => rw [arun_dr_nil] at hr ⊢; exact ih k (by simp [kwt, It.wt] at hk ⊢; omega) _ _ hr
        | cons o l =>
          have go : ∀ fr H i log, arun P tab (.dr full l i log :: k) fr H Q → arun P tab (.dr full l i log :: k) fr H R := fun fr H i log hr => ih (.dr full l i log :: k) (by simp [kwt, It.wt] at hk ⊢; omega) _ _ hr
          rw [arun_dr] at hr ⊢
          split at hr
          · split at hr
            · exact ⟨hr.1, go _ _ _ _ hr.2⟩
            · exact hr.elim
          · split at hr
            · split at hr
              · rename_i e; simp only [e, if_true]
                split at hr
                · exact ⟨hr.1, go _ _ _ _ hr.2⟩
                · exact hr.elim
              · rename_i e; simp only [e, if_false]; exact go _ _ _ _ hr
            · exact go _ _ _ _ hr
            · exact hr.elim
      | c x =>
        have hpos : 0 < cwt x := by cases x <;> simp [cwt]
        have hkk : ∀ fr H, arun P tab k fr H Q → arun P tab k fr H R := fun fr H hr => ih k (by simp [kwt, It.wt] at hk ⊢; omega) _ _ hr
        cases x with
        | skip => rw [arun_skip] at hr ⊢; exact hkk _ _ hr
        | region id ops d =>
          cases d with
          | false => rw [arun_region] at hr ⊢; exact ih (.ops ops ops.toList :: k) (by simp [kwt, It.wt, cwt] at hk ⊢; omega) _ _ hr
          | true => rw [arun_regiond] at hr ⊢; exact ih (.dr ops ops.toList 0 [] :: k) (by simp [kwt, It.wt, cwt] at hk ⊢; omega) _ _ hr
        | seq a b => rw [arun_seq] at hr ⊢; exact ih (.c a :: .c b :: k) (by simp [kwt, It.wt, cwt] at hk ⊢; omega) _ _ hr
        | cond v a b =>
          rw [arun_cond] at hr ⊢
          split at hr
          · split at hr
            · rename_i e; rw [if_pos e]; exact ih (.c a :: k) (by simp [kwt, It.wt, cwt] at hk ⊢; omega) _ _ hr
            · rename_i e; rw [if_neg e]; exact ih (.c b :: k) (by simp [kwt, It.wt, cwt] at hk ⊢; omega) _ _ hr
          · exact ⟨ih (.c a :: k) (by simp [kwt, It.wt, cwt] at hk ⊢; omega) _ _ hr.1, ih (.c b :: k) (by simp [kwt, It.wt, cwt] at hk ⊢; omega) _ _ hr.2⟩
          · exact hr.elim
        | block id a => rw [arun_block] at hr ⊢; exact ih (.c a :: .blk id :: k) (by simp [kwt, It.wt, cwt] at hk ⊢; omega) _ _ hr
        | loop a =>
          rw [arun_loop] at hr ⊢
          obtain ⟨ι, F, μ, i0, h0, h1⟩ := hr
          exact ⟨ι, F, μ, i0, h0, fun i => ih (.c a :: .back _ :: k) (by simp [kwt, It.wt, cwt] at hk ⊢; omega) _ _ (h1 i)⟩
        | exit id =>
          rw [arun_exit] at hr ⊢
          split at hr
          · rename_i k' hp
            have := popB_wt hp
            exact ih k' (by simp [kwt, It.wt, cwt] at hk this ⊢; omega) _ _ hr
          · exact hr.elim
        | label l => rw [arun_label] at hr ⊢; exact hkk _ _ hr
        | goto l => rw [arun_goto] at hr ⊢; exact hr
        | scope a =>
          rw [arun_scope] at hr ⊢
          rcases hr with hr | ⟨l, rest, J, hf, h1, hle, h2⟩
          · exact .inl (ih (.c a :: .scp :: k) (by simp [kwt, It.wt, cwt] at hk ⊢; omega) _ _ hr)
          · exact .inr ⟨l, rest, J, hf, ih (.c a :: .scj l J :: k) (by simp [kwt, It.wt, cwt] at hk ⊢; omega) _ _ h1, hle, fun fr H hj => ih (.c rest :: .scp :: k) (by simp [kwt, It.wt, cwt] at hk ⊢; omega) _ _ (h2 fr H hj)⟩
        | ret => rw [arun_ret] at hr ⊢; exact h _ _ hr
        | _ => rw [arun] at hr <;> first | exact hr.elim | simp

/-- A function that only reads what it is given. -/
theorem fq_ok {f : Nat} {fn : Func} {code : Code} {rs : List ResultVar} {n : Nat} {s : List AV → AH → Option AV} (hmix : P.follows .mixedOrders = true) (ht : TabOk P tab)
    (hf : P.funcs[f]? = some fn) (hb : fn.body = some code) (hrs : fn.results = rs.toArray) (hn : fn.ntmps = n) (hname : (fn.name == "runtime.NumGoroutine") = false) (hok : okC n ddr code = true)
    (h : ∀ args H v, s args H = some v → (args.all (AV.bel H.length)) = true → belH H = true → args.length ≤ n ∧ v.bel H.length = true ∧
      arun P ((1000000, .lo H.length) :: tab) [.c code] (frA 0 args) H (fun fr H' => resA P fr H' rs = some v ∧ subH H H')) : FpOk P f fun args H => (s args H).map fun v => (v, H) := by
  refine fp_ok hmix ht hf hb hrs hn hname hok (fun args H v H1 hs => by simp only [Option.map_eq_some_iff, Prod.mk.injEq] at hs; obtain ⟨_, _, _, rfl⟩ := hs; exact Nat.le_refl _) fun args H v H1 hs hargs hH => ?_
  simp only [Option.map_eq_some_iff, Prod.mk.injEq] at hs
  obtain ⟨v', h1, rfl, rfl⟩ := hs
  obtain ⟨h2, h3, h4⟩ := h args H v' h1 hargs hH
  refine ⟨h2, ?_⟩
  have key : ∀ fr H', (resA P fr H' rs = some v' ∧ subH H H') → ∃ x, resA P fr H' rs = some x ∧ Wk H.length [(0, x)] H' ([(0, v')], H) := by
    rintro fr H' ⟨e1, e2⟩
    exact ⟨v', e1, Wk.wk (Nat.le_refl _) (by simp [Am.get]) (by simp only [List.all_cons, h3]; rfl) e2 hH⟩
  exact arun_mono key _ _ (Nat.le_refl _) _ _ h4

theorem bel_set {H : AH} {o : AObj} {i : Nat} (hH : belH H = true) (ho : o.cells.all (Sc.bel H.length) = true) : ((H.set i o).all fun x => x.cells.all (Sc.bel (H.set i o).length)) = true := by
  rw [List.length_set, List.all_eq_true]
  intro x hx
  rcases List.mem_or_eq_of_mem_set hx with h | rfl
  · exact List.all_eq_true.1 hH x h
  · exact ho
theorem set_self {H : AH} {o : AObj} {i : Nat} (h : hg H i = o) (hi : i < H.length) : H.set i o = H := by
  have : H[i] = o := by rw [← h]; simp [hg, List.getD_eq_getElem?_getD, hi]
  rw [← this]; exact List.set_getElem_self hi
theorem hg_own_lt {H : AH} {i : Nat} {cs : List Sc} (h : hg H i = .own cs) : i < H.length := hg_lt (by rw [h]; rfl)

theorem Sc.bel_mono {s : Sc} {m n : Nat} (h : s.bel m = true) (hmn : m ≤ n) : s.bel n = true := by
  cases s <;> try rfl
  · simp only [Sc.bel, decide_eq_true_eq] at h ⊢; omega
  · simp only [Sc.bel, decide_eq_true_eq] at h ⊢; omega
  · simp only [Sc.bel, List.all_eq_true, decide_eq_true_eq] at h ⊢
    exact fun c hc => Nat.lt_of_lt_of_le (h c hc) hmn

/-- a law's arguments, as they are given -/
theorem rel_u {ρ : Ro} {a : Int} (h : (Lit.int .u64 a).wf = true) : VRel ρ (.c (.u (BitVec.ofInt 64 a))) (.int .u64 a) := by
  have h' : 0 ≤ a ∧ a ≤ 18446744073709551615 := by
    simpa [Lit.wf, IntKind.min, IntKind.max, IntKind.bits, IntKind.signed] using h
  have e : ((BitVec.ofInt 64 a).toNat : Int) = a := by rw [BitVec.toNat_ofInt]; omega
  show _ = _
  rw [e]
theorem rel_i {ρ : Ro} {a : Int} (h : (Lit.int .i64 a).wf = true) : VRel ρ (.c (.i a)) (.int .i64 a) := by
  have h' : -9223372036854775808 ≤ a ∧ a ≤ 9223372036854775807 := by
    simpa [Lit.wf, IntKind.min, IntKind.max, IntKind.bits, IntKind.signed] using h
  exact ⟨rfl, h'⟩
theorem rel_b {ρ : Ro} {a : Bool} : VRel ρ (.c (.b a)) (.bool a) := rfl

/-- a function that answers true: what a law's walk asks -/
theorem walk_true {f : Nat} {s : List AV → Option AV} {args : List AV} {cs : List Value} (h : PuOk P f s) (hs : s args = some (.c (.b true))) (hr : L2 (VRel ρ0) args cs) (w : World) :
    Calls P f cs.toArray w fun e w' => e = .returned (.bool true) ∧ RowKit.Grown w w' := by
  refine (h.pure args _ hs ρ0 w cs hr).mono fun e w' ⟨vc, he, hv, hk⟩ => ?_
  have : vc = .bool true := hv ρ0
  exact ⟨by rw [he, this], hk.grown⟩

end Go.Am
