/- An abstract machine for the model, part 2: its runs, and that they are the model's: no conditions. -/
import Derived.Test.YtppmkmkadidemaaAl
/- Operations that make objects or change them. -/
namespace Go.Am
variable {P : Program} {ρ : Ro}

def Sc.one : Sc → Bool
  | .any | .und => false
  | _ => true

/-- operations that make an object or change one: the value, and the heap behind it -/
def eop (P : Program) (op : Op) (vs : List AV) (H : AH) : Option (AV × AH) :=
  match op, vs with
  | .alloc t, [] =>
    match zT P t with
    | some z => some (.c (.p H.length 0 0), H ++ [.own z])
    | none => none
  | .box _ _, [x] =>
    match x.cells with
    | some l => some (.c (.p H.length 0 0), H ++ [.own l])
    | none => none
  | .buildSlice t len ps, vs =>
    match dT P t with
    | .sl e =>
      match zT P e with
      | some z =>
        if 0 < szT P e ∧ 0 < len ∧ len * szT P e ≤ 16777216 ∧ z.length = szT P e then
          match fillA (fun i => some (i * szT P e, szT P e)) (List.replicate len z).flatten ((ps.toList.map (·.1)).zip vs) with
          | some cs => some (.c (.sl H.length 0 cs.length len), H ++ [.vec (szT P e) cs])
          | none => none
        else if 0 < szT P e ∧ len = 0 ∧ ps.size = 0 then some (.c (.sl H.length 0 0 0), H ++ [.vec (szT P e) []])
        else none
      | none => none
    | _ => none
  | .makeSlice t _ _, [.c (.i l), .c (.i c)] =>
    match dT P t with
    | .sl e =>
      match zT P e with
      | some z =>
        if l = c ∧ 0 ≤ l ∧ l ≤ 1048576 ∧ 0 < szT P e ∧ byT P e ≤ 1048576 ∧ z.length = szT P e then
          some (.c (.sl H.length 0 (l.toNat * szT P e) l.toNat), H ++ [.vec (szT P e) (List.replicate l.toNat z).flatten])
        else none
      | none => none
    | _ => none
  | .store t _ _, [.c (.p id off ver), x] =>
    match x.cells with
    | some l =>
      if (hg H id).owned = true ∧ ver = (hg H id).row ∧ l.length = szT P t ∧ 0 < szT P t ∧ off + l.length ≤ (hg H id).cells.length ∧ l.all Sc.one = true then
        some (.c .und, H.set id ((hg H id).put (wr (hg H id).cells off l)))
      else none
    | none => none
  | _, _ => none

/-- the relation behind an operation that keeps all locations, and makes one object at most -/
structure Eff (ρ : Ro) (w : World) (H : AH) (w' : World) (ρ' : Ro) (H' : AH) : Prop where
  hr : HR ρ' w' H'
  st : Stab ρ ρ'
  kp : ∀ w0 M, Keep w0 M w → (∀ i L, (hg H i).owned = true → ρ i = some L → L.nil = false → (M L.blk ∨ w0.heap.size ≤ L.blk)) →
    Keep w0 M w' ∧ (∀ i L, (hg H' i).owned = true → ρ' i = some L → L.nil = false → (M L.blk ∨ w0.heap.size ≤ L.blk))
  len : H.length ≤ H'.length
  mv : ∀ i L, (hg H i).owned = false → ρ i = some L → ρ' i = some L

theorem Eff.alloc {w : World} {H : AH} (h : HR ρ w H) {l : List Sc} {c : List Value} (hl : L2 (SRel ρ) l c) (t : Nat) (o : AObj) (L : Loc) (hb : L.blk = w.heap.size) (hoff : L.off = 0) (hnil : L.nil = false)
    (hrow : L.row = o.row) (ho : (o = .own l ∧ L.vec = false) ∨ (∃ sz, o = .vec sz l ∧ L.vec = true ∧ 0 < sz ∧ L.cap * sz = c.length)) :
    Eff ρ w H (w.alloc (.cells c.toArray t)) (upd ρ H.length L) (H ++ [o]) := by
  obtain ⟨h1, h2⟩ := h.alloc hl t o L hb hoff hnil hrow ho
  refine ⟨h1, h2, fun w0 M hk hm => ⟨hk.alloc _ _, fun i Li hio hLi hni => ?_⟩, by simp, fun i Li _ hLi => ?_⟩
  · by_cases e : i = H.length
    · subst e; rw [upd_same] at hLi; simp at hLi; subst hLi
      exact .inr (by rw [hb]; exact hk.size)
    · rw [upd_ne _ _ e] at hLi
      rw [hg_append, if_neg e] at hio
      exact hm i Li hio hLi hni
  · have : i ≠ H.length := by rintro rfl; rw [h.fresh _ (Nat.le_refl _)] at hLi; simp at hLi
    rw [upd_ne _ _ this, hLi]

/-- what an operation comes to, when it hands back a value -/
def Come (P : Program) (ρ : Ro) (H : AH) (w : World) (s : Sem Next) (v : AV) (H' : AH) : Prop :=
  ∃ w' ρ', Eff ρ w H w' ρ' H' ∧ ((∃ vc, s.run P w = .ok (.value vc) w' ∧ VRel ρ' v vc) ∨ (s.run P w = .ok .skip w' ∧ v = .c .und))

theorem own_alloc {w : World} {H : AH} (h : HR ρ w H) {l : List Sc} {c : List Value} (hl : L2 (SRel ρ) l c) (t : Nat) :
    Eff ρ w H (w.alloc (.cells c.toArray t)) (upd ρ H.length ⟨w.heap.size, 0, 0, 0, false, false⟩) (H ++ [.own l]) ∧
      VRel (upd ρ H.length ⟨w.heap.size, 0, 0, 0, false, false⟩) (.c (.p H.length 0 0)) (.pointer (some ⟨w.heap.size, 0, none⟩)) :=
  ⟨Eff.alloc h hl t _ _ rfl rfl rfl rfl (.inl ⟨rfl, rfl⟩), ⟨_, _, upd_same _ _ _, rfl, Nat.le_refl _, fun _ => ⟨rfl, by simp, rfl⟩⟩⟩

theorem vec_alloc {w : World} {H : AH} (h : HR ρ w H) {l : List Sc} {c : List Value} (hl : L2 (SRel ρ) l c) (t sz n : Nat) (hsz : 0 < sz) (hn : n * sz = c.length) (hn2 : n ≤ 9223372036854775807) :
    Eff ρ w H (w.alloc (.cells c.toArray t)) (upd ρ H.length ⟨w.heap.size, 0, n, l.length, false, true⟩) (H ++ [.vec sz l]) ∧
      VRel (upd ρ H.length ⟨w.heap.size, 0, n, l.length, false, true⟩) (.c (.sl H.length 0 l.length n)) (.slice (some ⟨w.heap.size, 0, none⟩) n n) := by
  refine ⟨Eff.alloc h hl t _ _ rfl rfl rfl rfl (.inr ⟨sz, rfl, rfl, hsz, hn⟩), _, _, _, upd_same _ _ _, rfl, by simp, Nat.le_refl _, hn2, Nat.le_refl _, fun _ => ?_⟩
  rw [if_neg (by simp)]
  refine ⟨_, rfl, fun _ => rfl, fun _ _ => rfl, fun h0 _ => ?_⟩
  show 0 < l.length
  rw [hl.length, ← hn]; exact Nat.mul_pos h0 hsz

theorem run_fill_range {z : List Value} (n sz : Nat) (hz : z.length = sz) : (Array.range (n * sz)).map (fun x => z.toArray[x % z.toArray.size]!) = (List.replicate n z).flatten.toArray := by
  apply Array.ext'
  simp only [Array.toList_map, Array.toList_range, List.size_toArray]
  induction n with
  | zero => simp
  | succ n ih =>
    have e1 : (n + 1) * sz = n * sz + sz := by rw [Nat.add_mul, Nat.one_mul]
    rw [e1, List.range_add, List.map_append, ih, List.replicate_succ', List.flatten_append]
    congr 1
    simp only [List.map_map, List.flatten_cons, List.flatten_nil, List.append_nil]
    apply List.ext_getElem (by simp [hz])
    intro i h1 h2
    simp at h1
    have : (n * sz + i) % z.length = i := by rw [hz, Nat.mul_comm, Nat.mul_add_mod]; exact Nat.mod_eq_of_lt h1
    simp [this, h2]

theorem L2.rep {α β : Type} {R : α → β → Prop} {l : List α} {m : List β} (h : L2 R l m) (n : Nat) : L2 R (List.replicate n l).flatten (List.replicate n m).flatten := by
  induction n with
  | zero => exact .nil
  | succ n ih => simp only [List.replicate_succ, List.flatten_cons]; exact h.app ih

theorem fillA_len (place : Nat → Option (Nat × Nat)) : ∀ (ps : List (Nat × AV)) (z r : List Sc), fillA place z ps = some r → r.length = z.length := by
  intro ps
  induction ps with
  | nil => intro z r h; simp [fillA] at h; rw [h]
  | cons p ps ih =>
    intro z r h
    obtain ⟨i, v⟩ := p
    simp only [fillA] at h
    split at h
    · split at h
      · rename_i hc
        rw [ih _ _ h]; simp [wr]; omega
      · simp at h
    · simp at h



theorem HR.set {w w' : World} {H : AH} (h : HR ρ w H) {id : Nat} {L : Loc} {ob : Obj} {o' : AObj} (hown : (hg H id).owned = true) (hL : ρ id = some L) (hnil : L.nil = false)
    (hs : SetB w w' L.blk ob) (ho' : ORel ρ w' id o') : HR ρ w' (H.set id o') := by
  have hid := hg_lt (AObj.owned_live hown)
  refine ⟨fun i => ?_, fun i j Li Lj hij hio hLi hni hjl hLj hnj => ?_, fun i hi => h.fresh i (by simpa using hi)⟩
  · rw [hg_set _ _ _ _ hid]
    split
    · subst_vars; exact ho'
    · rename_i hne
      refine (h.obj i).keep (Stab.refl ρ) rfl (fun Li hi hn hl => ?_) (by rw [hs.size]; omega)
      exact hs.other _ (fun e => h.sep id i L Li (fun e => hne e.symm) hown hL hnil hl hi hn e.symm)
  · have hio' : (hg H i).owned = true := by
      rw [hg_set _ _ _ _ hid] at hio
      split at hio
      · subst_vars; exact hown
      · exact hio
    have hjl' : (hg H j).live = true := by
      rw [hg_set _ _ _ _ hid] at hjl
      split at hjl
      · subst_vars; exact AObj.owned_live hown
      · exact hjl
    exact h.sep i j Li Lj hij hio' hLi hni hjl' hLj hnj

theorem Eff.set {w w' : World} {H : AH} (h : HR ρ w H) {id : Nat} {L : Loc} {c : Array Value} {t : Nat} {o' : AObj} (hown : (hg H id).owned = true) (hL : ρ id = some L) (hnil : L.nil = false)
    (hs : SetB w w' L.blk (.cells c t (0, 0))) (ho' : ORel ρ w' id o') : Eff ρ w H w' ρ (H.set id o') := by
  have hid := hg_lt (AObj.owned_live hown)
  refine ⟨h.set hown hL hnil hs ho', Stab.refl ρ, fun w0 M hk hm => ⟨hk.setB hs (hm id L hown hL hnil), fun i Li hio hLi hni => ?_⟩, by simp, fun _ _ _ h => h⟩
  rw [hg_set _ _ _ _ hid] at hio
  split at hio
  · subst_vars; exact hm _ _ hown hLi hni
  · exact hm _ _ hio hLi hni

theorem one_all {l : List Sc} {c : List Value} (h : L2 (SRel ρ) l c) (ho : l.all Sc.one = true) : ∀ v ∈ c, v.oneCell' = true := by
  induction h with
  | nil => simp
  | @cons s v l c hs _ ih =>
    simp only [List.all_cons, Bool.and_eq_true] at ho
    intro u hu
    rcases List.mem_cons.1 hu with rfl | hu
    · exact (SRel.one hs (by rintro rfl; simp [Sc.one] at ho) (by rintro rfl; simp [Sc.one] at ho)).1
    · exact ih ho.2 u hu

theorem wr_rel {cs l : List Sc} {c v : List Value} (h : L2 (SRel ρ) cs c) (hl : L2 (SRel ρ) l v) (off : Nat) : L2 (SRel ρ) (wr cs off l) (c.take off ++ v ++ c.drop (off + v.length)) := by
  unfold wr; rw [← hl.length]; exact ((h.take off).app hl).app (h.drop _)

theorem store_eff {w : World} {H : AH} (hH : HR ρ w H) {id off : Nat} {L : Loc} {l : List Sc} {cs : List Value} (hown : (hg H id).owned = true) (hL : ρ id = some L) (hnil : L.nil = false) (hl : L2 (SRel ρ) l cs)
    (hoff : off + l.length ≤ (hg H id).cells.length) (hone : l.all Sc.one = true) :
    ∃ w', (storeCells ⟨L.blk, L.off + off, none⟩ cs).run P w = .ok () w' ∧ Eff ρ w H w' ρ (H.set id ((hg H id).put (wr (hg H id).cells off l))) := by
  have hO := hH.obj id
  have hll := hl.length
  cases hh : hg H id with
  | own os =>
    rw [hh] at hO hoff hown
    obtain ⟨L', c, t, h1, h2, h3, h4, h5, h6, h7⟩ := hO
    obtain rfl : L = L' := by simpa [hL] using h1
    have hcl := h7.length
    simp only [AObj.cells] at hoff
    obtain ⟨w', h8, h9⟩ := run_storeCells (P := P) t L.blk cs w c 0 off h6 (one_all hl hone) (by omega)
    rw [h2, Nat.zero_add]
    refine ⟨w', h8, Eff.set hH (by rw [hh]; rfl) hL hnil h9 ?_⟩
    exact ⟨L, _, t, hL, h2, h3, h4, h5, h9.this, by simpa [AObj.cells] using wr_rel h7 hl off⟩
  | vec sz os =>
    rw [hh] at hO hoff hown
    obtain ⟨L', h1, h2, h3, h4, h5, h6⟩ := hO
    obtain rfl : L = L' := by simpa [hL] using h1
    rw [if_neg (by rw [hnil]; simp)] at h6
    obtain ⟨c, d, t, h6, hcap, h7⟩ := h6
    have hcl := h7.length
    simp only [AObj.cells] at hoff
    obtain ⟨w', h8, h9⟩ := run_storeCells (P := P) t L.blk cs w (c ++ d) 0 off h6 (one_all hl hone) (by simp; omega)
    rw [h2, Nat.zero_add]
    refine ⟨w', h8, Eff.set hH (by rw [hh]; rfl) hL hnil h9 ?_⟩
    have e : (c ++ d).take (off + 0) ++ cs ++ (c ++ d).drop (off + 0 + cs.length) = (c.take off ++ cs ++ c.drop (off + cs.length)) ++ d := by
      rw [List.take_append_of_le_length (by omega), List.drop_append_of_le_length (by omega)]; simp
    rw [e] at h9
    refine ⟨L, hL, h2, ?_, h4, h5, ?_⟩
    · rw [h3]; simp [wr, AObj.cells]; omega
    · rw [if_neg (by rw [hnil]; simp)]
      exact ⟨_, d, t, h9.this, by rw [hcap]; simp; omega, wr_rel h7 hl off⟩
  | view os => rw [hh] at hown; simp [AObj.owned] at hown
  | dead => rw [hh] at hown; simp [AObj.owned] at hown

theorem zip_ps {a : Act} (ps : Array (Nat × Operand)) {vs : List AV} (hv : L2 (VRel ρ) vs ((ps.toList.map (·.2)).map a.eval)) :
    L2 (fun (x : Nat × AV) (y : Nat × Value) => x.1 = y.1 ∧ VRel ρ x.2 y.2) ((ps.toList.map (·.1)).zip vs) ((ps.map fun p => (p.1, a.eval p.2)).toList) := by
  have := zip_rel (ρ := ρ) (a := a) ps.toList vs (by simpa [Function.comp_def] using hv)
  simpa using this

theorem eop_run {o : Oper} {a : Act} {H H' : AH} {vs : List AV} {v : AV} {w : World} (h : eop P o.op vs H = some (v, H'))
    (hv : L2 (VRel ρ) vs ((opnds o.op).map a.eval)) (hH : HR ρ w H) : Come P ρ H w (execOp a.eval o) v H' := by
  obtain ⟨dst, op, ty, pos, after, guard⟩ := o
  simp only at h hv
  have fin : ∀ (s : Sem Value), (∃ w' ρ' vc, Eff ρ w H w' ρ' H' ∧ s.run P w = .ok vc w' ∧ VRel ρ' v vc) → Come P ρ H w (do pure (.value (← s)) : Sem Next) v H' := by
    rintro s ⟨w', ρ', vc, h1, h2, h3⟩
    exact ⟨w', ρ', h1, .inl ⟨vc, by simp [h2], h3⟩⟩
  unfold eop at h
  split at h
  · -- alloc
    rename_i t
    split at h <;> simp at h
    rename_i z hz
    obtain ⟨rfl, rfl⟩ := h
    obtain ⟨zv, zc, h1, h2, h3⟩ := zero_rel (ρ := ρ) hz w
    obtain ⟨h4, h5⟩ := own_alloc hH h3 t
    refine fin _ ⟨_, _, _, h4, ?_, h5⟩
    simp only [Instr.alloc, Sem.run_bind, h1, Result.andThen_ok, newVar, newRow, h2, run_newObj, Sem.run_pure]; rfl
  · -- box
    rename_i t x ax
    split at h <;> simp at h
    rename_i l hc
    obtain ⟨rfl, rfl⟩ := h
    obtain ⟨y, hy, h1⟩ := hv.one
    simp only [opnds, List.map_cons, List.map_nil, List.cons.injEq, and_true] at hy; subst hy
    obtain ⟨cs, h2, h3, _⟩ := h1.cells hc
    obtain ⟨h4, h5⟩ := own_alloc hH h3 t
    refine fin _ ⟨_, _, _, h4, ?_, h5⟩
    simp only [Instr.box, newVar, newRow, h2, Sem.run_bind, run_newObj, Result.andThen_ok, Sem.run_pure]; rfl
  · -- buildSlice
    rename_i t len ps
    split at h <;> try (simp at h; done)
    rename_i e hd
    have hu := und_sl hd
    split at h <;> try (simp at h; done)
    rename_i z hz
    split at h
    · rename_i hc
      obtain ⟨hsz, hl, hmax, hzl⟩ := hc
      split at h <;> simp at h
      rename_i cs hf
      obtain ⟨rfl, rfl⟩ := h
      obtain ⟨zv, zc, h1, h2, h3⟩ := zero_rel (ρ := ρ) hz w
      obtain ⟨rc, h4, h5⟩ := fill_rel _ _ _ (zip_ps ps hv) _ _ _ (h3.rep len) hf
      have hlen : len * szT P e = rc.length := by
        rw [← h5.length, fillA_len _ _ _ _ hf]; simp [hzl]
      obtain ⟨h6, h7⟩ := vec_alloc hH h5 e (szT P e) len hsz hlen (by have : len ≤ len * szT P e := Nat.le_mul_of_pos_right _ hsz; omega)
      refine fin _ ⟨_, _, _, h6, ?_, h7⟩
      have hzc : zc.length = szT P e := by rw [← h3.length, hzl]
      have hne : ¬ len * szT P e = 0 := by have := Nat.mul_pos hl hsz; omega
      have hne2 : ¬ len * szT P e > 2 ^ 24 := by omega
      simp only [Instr.buildSlice, Sem.run_bind, run_underlying hu, Result.andThen_ok, run_sizeOf' hsz, hne2, if_false, hne, Sem.run_pure, h1, h2, run_fill_range len _ hzc]
      simp only [Array.toList_map] at h4 ⊢
      rw [h4]
      simp only [newRow, Sem.run_bind, run_newObj, Result.andThen_ok, Sem.run_pure]; rfl
    · split at h <;> simp at h
      rename_i hc
      obtain ⟨hsz, rfl, hps⟩ := hc
      obtain ⟨rfl, rfl⟩ := h
      obtain rfl : ps = #[] := Array.eq_empty_of_size_eq_zero hps
      obtain ⟨h6, h7⟩ := vec_alloc hH (l := []) (c := []) .nil e (szT P e) 0 hsz (by simp) (by omega)
      refine fin _ ⟨_, _, _, h6, ?_, h7⟩
      have e0 : Array.range 0 = #[] := by apply Array.ext'; simp
      simp [Instr.buildSlice, run_underlying hu, run_sizeOf' hsz, Instr.fill, newRow, e0]
  · -- makeSlice
    rename_i t x y l c
    split at h <;> try (simp at h; done)
    rename_i e hd
    have hu := und_sl hd
    split at h <;> try (simp at h; done)
    rename_i z hz
    split at h <;> simp at h
    rename_i hc
    obtain ⟨rfl, h0, hmax, hsz, hby, hzl⟩ := hc
    obtain ⟨rfl, rfl⟩ := h
    obtain ⟨cx, cy, hx, h1, h2⟩ := hv.two
    simp only [opnds, List.map_cons, List.map_nil, List.cons.injEq, and_true] at hx
    obtain ⟨rfl, rfl⟩ := hx
    obtain ⟨h1, _⟩ := h1
    obtain ⟨h2, _⟩ := h2
    obtain ⟨zv, zc, h3, h4, h5⟩ := zero_rel (ρ := ρ) hz w
    obtain ⟨i, hi, his⟩ := info_of hsz
    have hzc : zc.length = szT P e := by rw [← h5.length, hzl]
    have hll : l.toNat * szT P e = ((List.replicate l.toNat z).flatten).length := by simp [hzl]
    have h8 := vec_alloc hH (h5.rep l.toNat) e (szT P e) l.toNat hsz (by simp [hzc]) (by omega)
    rw [← hll] at h8
    obtain ⟨h6, h7⟩ := h8
    refine fin _ ⟨_, _, _, h6, ?_, h7⟩
    have hw : IntKind.i64.wrap l = l := w64_id (by omega) (by omega)
    have hbytes : byT P e = i.bytes := by simp [byT, hi]
    have hb : ¬ ((i.bytes : Int) * l > 2 ^ 48) := by
      rw [← hbytes]
      have : (byT P e : Int) * l ≤ 1048576 * 1048576 := Int.mul_le_mul (by omega) hmax h0 (by omega)
      omega
    have hn : ¬ l < 0 := by omega
    have hn2 : ¬ l > l := by omega
    have hb' : decide ((i.bytes : Int) * l > 2 ^ 48) = false := decide_eq_false hb
    simp only [Instr.makeSlice, Sem.run_bind, run_underlying hu, Result.andThen_ok, h1, h2, asInt, asIntOf, Sem.run_pure, typeInfo, run_program, hi, hw, hb', Bool.false_or, hn, hn2, decide_false, Bool.or_self, Bool.false_eq_true, if_false, run_askRoom, run_sizeOf' hsz]
    by_cases hz0 : l.toNat * szT P e = 0
    · simp only [hz0, if_true, Sem.run_pure, Result.andThen_ok, newRow, Sem.run_bind, run_newObj]
      have e1 : (List.replicate l.toNat zc).flatten = [] := List.eq_nil_of_length_eq_zero (by simp [hzc, hz0])
      have e0 : Array.range 0 = #[] := by apply Array.ext'; simp
      rw [e1, e0]; simp
    · simp only [hz0, if_false, Sem.run_bind, Sem.run_pure, h3, Result.andThen_ok, h4, run_fill_range _ _ hzc, newRow, run_newObj]; rfl
  · -- store
    rename_i t x y id off ver ax
    split at h <;> try (simp at h; done)
    rename_i l hl
    split at h <;> simp at h
    rename_i hc
    obtain ⟨hown, hver, hlen, hsz, hoff, hone⟩ := hc
    obtain ⟨rfl, rfl⟩ := h
    obtain ⟨cx, cy, hx, h1, h2⟩ := hv.two
    simp only [opnds, List.map_cons, List.map_nil, List.cons.injEq, and_true] at hx
    obtain ⟨rfl, rfl⟩ := hx
    obtain ⟨cs, h3, h4, _⟩ := h2.cells hl
    obtain ⟨L, ad, h5, h6, h7, h8⟩ := (show PRel ρ id off ver _ from h1)
    have hrow := (hH.obj id).row h5 (AObj.owned_live hown)
    obtain ⟨hnil, _, rfl⟩ := h8 (by rw [hrow]; exact hver)
    obtain ⟨w', h9, h10⟩ := store_eff (P := P) hH hown h5 hnil h4 hoff hone
    refine ⟨w', ρ, h10, .inr ⟨?_, rfl⟩⟩
    have hcs : cs.toArray.size = szT P t := by simp [← h4.length, hlen]
    simp only [execOp, Sem.run_bind, Instr.storeAt, h6, Instr.sureAddr, Sem.run_pure, Result.andThen_ok, storeVar, run_sizeOf' hsz, h3, hcs, ne_eq, not_true_eq_false, if_false, h9]
  · simp at h

end Go.Am

/- append -/
namespace Go.Am
variable {P : Program} {ρ : Ro}

theorem cells_run {w : World} {i : Nat} {o : AObj} {L : Loc} {off n : Nat} (ho : ORel ρ w i o) (hL : ρ i = some L) (hlen : off + n ≤ o.cells.length) :
    ∃ vs : List Value, vs.length = n ∧ L2 (SRel ρ) ((o.cells.drop off).take n) vs ∧ ∀ w' : World, (∀ j, w'.cell? ⟨L.blk, j, none⟩ = w.cell? ⟨L.blk, j, none⟩) → (loadCells ⟨L.blk, L.off + off, none⟩ n).run P w' = .ok vs.toArray w' := by
  have hcell := fun (j : Nat) (s : Sc) (hs : o.cells[j]? = some s) => ho.cell hL hs
  have key : ∀ (l : List Sc) (p : Nat), (∀ j s, l[j]? = some s → o.cells[p + j]? = some s) → ∃ vs : List Value, L2 (SRel ρ) l vs ∧ ∀ j v, vs[j]? = some v → w.cell? ⟨L.blk, L.off + (p + j), none⟩ = some v := by
    intro l
    induction l with
    | nil => intro p _; exact ⟨[], .nil, by simp⟩
    | cons s l ih =>
      intro p h
      obtain ⟨v, hv, hr⟩ := hcell p s (by simpa using h 0 s (by simp))
      obtain ⟨vs, h1, h2⟩ := ih (p + 1) (fun j s' hs' => by have := h (j + 1) s' (by simpa using hs'); rwa [show p + 1 + j = p + (j + 1) by omega])
      refine ⟨v :: vs, .cons hr h1, fun j u hu => ?_⟩
      cases j with
      | zero => simp at hu; subst hu; exact hv
      | succ j => have := h2 j u (by simpa using hu); rwa [show p + (j + 1) = p + 1 + j by omega]
  obtain ⟨vs, h1, h2⟩ := key ((o.cells.drop off).take n) off (fun j s hs => drop_take_get _ _ _ _ _ hs)
  have hl : vs.length = n := by rw [← h1.length]; simp; omega
  refine ⟨vs, hl, h1, fun w' hw' => ?_⟩
  simp only [loadCells]
  rw [← hl, run_loadCellsFrom w' _ vs 0 #[] (fun j v hv => by rw [Addr.add_none, Nat.zero_add, Nat.add_assoc, hw']; exact h2 j v hv)]
  simp

theorem growBy_le (need : Nat) : ∀ (r c : Nat), Builtin.growBy need r c ≤ max c (2 * need + 1000) := by
  intro r
  induction r with
  | zero => intro c; simp only [Builtin.growBy]; omega
  | succ r ih =>
    intro c
    simp only [Builtin.growBy]
    split
    · omega
    · have := ih (c + (c + 768) / 4); omega
theorem nextcap_le (need cap : Nat) (h : cap < need) : Builtin.nextslicecap need cap ≤ 2 * need + 1000 := by
  unfold Builtin.nextslicecap
  split
  · omega
  · split
    · omega
    · have := growBy_le need 4 cap; omega

/-- the cells that are appended, and how many elements -/
def srcA (H : AH) (sz : Nat) (y : AV) : Option (List Sc × Nat) :=
  match y with
  | .c .nils => some ([], 0)
  | .c (.sl id off ver n) => if ver = (hg H id).row ∧ off + n * sz ≤ (hg H id).cells.length then some (((hg H id).cells.drop off).take (n * sz), n) else none
  | _ => none

def appA (P : Program) (ts : Array TypeId) (vs : List AV) (H : AH) : Option (AV × AH) :=
  match ts[0]?, ts[1]? with
  | some t0, some t1 =>
    match dT P t0, dT P t1, vs with
    | .sl e, .sl _, [x, y] =>
      match srcA H (szT P e) y, zT P e with
      | some (new, n), some z =>
        if 0 < szT P e ∧ 0 < byT P e ∧ byT P e ≤ 1048576 ∧ z.length = szT P e ∧ new.all Sc.one = true then
          match x with
          | .c (.sl id off ver len) =>
            match hg H id with
            | .vec sz cs =>
              if off = 0 ∧ ver = cs.length ∧ sz = szT P e ∧ cs.length = len * szT P e ∧ (len + n) * byT P e ≤ 1099511627776 then
                some (.c (.sl id 0 (cs.length + new.length) (len + n)), H.set id (.vec sz (cs ++ new)))
              else none
            | _ => none
          | .c .nils => if 0 < n ∧ n * byT P e ≤ 1099511627776 then some (.c (.sl H.length 0 new.length n), H ++ [.vec (szT P e) new]) else none
          | _ => none
        else none
      | _, _ => none
    | _, _, _ => none
  | _, _ => none

theorem by_of {e : Nat} {i : TypeInfo} (h : P.info? e = some i) : byT P e = i.bytes := by simp [byT, h]

/-- what is appended, read in the model -/
theorem src_run {w : World} {H : AH} (hH : HR ρ w H) {sz : Nat} {y : AV} {new : List Sc} {n : Nat} {cy : Value} (h : srcA H sz y = some (new, n)) (hy : VRel ρ y cy) :
    ∃ vs : List Value, vs.length = n * sz ∧ L2 (SRel ρ) new vs ∧ (Builtin.lenOf cy).run P w = .ok n w ∧ n ≤ 9223372036854775807 ∧
      ∀ w' : World, (∀ b j, b < w.heap.size → w'.cell? ⟨b, j, none⟩ = w.cell? ⟨b, j, none⟩) → (Builtin.firstCells sz n cy).run P w' = .ok vs.toArray w' := by
  unfold srcA at h
  split at h
  · simp at h; obtain ⟨rfl, rfl⟩ := h
    cases hy
    exact ⟨[], by simp, .nil, by simp [Builtin.lenOf], by omega, fun w' _ => by simp [Builtin.firstCells]⟩
  · rename_i id off ver m
    split at h <;> simp at h
    rename_i hc
    obtain ⟨rfl, rfl⟩ := h
    obtain ⟨L, base, cap, h1, rfl, hn, h2, h3, h4, h5⟩ := (show SlRel ρ id off ver m cy from hy)
    by_cases hm : m * sz = 0
    · refine ⟨[], by simp [hm], by rw [hm]; simp; exact .nil, by simp [Builtin.lenOf], h3, fun w' _ => ?_⟩
      cases base with
      | none => simp [Builtin.firstCells]
      | some a => simp [Builtin.firstCells, hm, loadCells, loadCellsFrom]
    · have hm0 : 0 < m := by rcases Nat.eq_zero_or_pos m with h | h; subst h; simp at hm; exact h
      have hlive : (hg H id).live = true := by
        cases hh : hg H id with
        | dead => rw [hh] at hc; simp [AObj.cells] at hc; omega
        | _ => rfl
      have hrow := (hH.obj id).row h1 hlive
      have h6 := h5 (by rw [hrow]; exact hc.1)
      by_cases hnil : L.nil = true
      · rw [if_pos hnil] at h6; omega
      rw [if_neg hnil] at h6
      obtain ⟨a, rfl, h7, _, _⟩ := h6
      obtain rfl := h7 (.inr hm0)
      obtain ⟨vs, h8, h9, h10⟩ := cells_run (P := P) (hH.obj id) h1 hc.2
      have hblk := (hH.obj id).blk_lt h1 (by simpa using hnil) hlive
      exact ⟨vs, h8, h9, by simp [Builtin.lenOf], h3, fun w' hw' => by simp only [Builtin.firstCells]; exact h10 w' fun j => hw' _ _ hblk⟩
  · simp at h

theorem Keep.drew {w0 w : World} {M : Nat → Prop} (h : Keep w0 M w) : Keep w0 M w.drew := ⟨h.os, h.tape, h.output, h.size, h.old, h.free⟩
theorem ORel.drew {w : World} {i : Nat} {o : AObj} (h : ORel ρ w i o) : ORel ρ w.drew i o := h.keep (Stab.refl ρ) rfl (fun _ _ _ _ => rfl) (Nat.le_refl _)
theorem HR.drew {w : World} {H : AH} (h : HR ρ w H) : HR ρ w.drew H := ⟨fun i => (h.obj i).drew, h.sep, h.fresh⟩

/-- A new block for an object that is there, or the next one. -/
theorem HR.new {w : World} {H H' : AH} (h : HR ρ w H) {l : List Sc} {c d : List Value} (hl : L2 (SRel ρ) l c) (t id sz : Nat) (L : Loc) (hb : L.blk = w.heap.size) (hoff : L.off = 0) (hnil : L.nil = false)
    (hrow : L.row = l.length) (hvec : L.vec = true) (hsz : 0 < sz) (hcap : L.cap * sz = (c ++ d).length) (hst : Stab ρ (upd ρ id L))
    (hH' : ∀ i, hg H' i = if i = id then .vec sz l else hg H i) (hlen : H.length ≤ H'.length) (hid : id < H'.length) : HR (upd ρ id L) (w.alloc (.cells (c ++ d).toArray t)) H' := by
  have hl' : L2 (SRel (upd ρ id L)) l c := hl.mono fun _ _ h => h.mono hst
  refine ⟨?_, ?_, ?_⟩
  · intro i
    rw [hH']
    split
    · subst_vars
      refine ⟨L, upd_same _ _ _, hoff, hrow, hvec, hsz, ?_⟩
      rw [if_neg (by rw [hnil]; simp)]
      exact ⟨c, d, t, by rw [hb]; exact alloc_new w _, hcap, hl'⟩
    · rename_i hne
      refine (h.obj i).keep hst (upd_ne _ _ hne) (fun Li hi hn hlv => ?_) (by simp)
      exact alloc_block _ _ _ ((h.obj i).blk_lt hi hn hlv)
  · intro i j Li Lj hij hio hLi hni hjl hLj hnj
    rw [hH'] at hio hjl
    by_cases h1 : i = id
    · subst h1
      rw [upd_same] at hLi; simp at hLi; subst hLi
      have h2 : j ≠ i := fun e => hij e.symm
      rw [if_neg h2] at hjl
      rw [upd_ne _ _ h2] at hLj
      have := (h.obj j).blk_lt hLj hnj hjl
      omega
    · rw [if_neg h1] at hio
      rw [upd_ne _ _ h1] at hLi
      by_cases h2 : j = id
      · subst h2
        rw [upd_same] at hLj; simp at hLj; subst hLj
        have := (h.obj i).blk_lt hLi hni (AObj.owned_live hio)
        omega
      · rw [if_neg h2] at hjl
        rw [upd_ne _ _ h2] at hLj
        exact h.sep i j Li Lj hij hio hLi hni hjl hLj hnj
  · intro i hi
    rw [upd_ne _ _ (by omega)]
    exact h.fresh i (by omega)

theorem zeroCells_len (z : Array Value) (n : Nat) : (Builtin.zeroCells z n).size = n * z.size := by simp [Builtin.zeroCells]

/-- an append for which there is no room -/
theorem app_grow {w : World} {ts : Array TypeId} {ty t0 t1 e e1 : Nat} {base : Option Addr} {len cap n : Nat} {cx cy : Value} {z : List Sc} {old new : List Value}
    (h0 : ts[0]? = some t0) (h1 : ts[1]? = some t1) (hd0 : dT P t0 = .sl e) (hd1 : dT P t1 = .sl e1) (hx : cx = .slice base len cap) (hsz : 0 < szT P e) (hby : 0 < byT P e) (hby2 : byT P e ≤ 1048576) (hz : zT P e = some z) (hzl : z.length = szT P e)
    (hlen : (Builtin.lenOf cy).run P w = .ok n w) (hcap : ¬ len + n ≤ cap) (hb : (len + n) * byT P e ≤ 1099511627776)
    (hold : (Builtin.firstCells (szT P e) len cx).run P w.drew = .ok old.toArray w.drew) (hnew : (Builtin.firstCells (szT P e) n cy).run P w.drew = .ok new.toArray w.drew) :
    ∃ (C : Nat) (rest : List Value), len + n ≤ C ∧ rest.length = (C - (len + n)) * szT P e ∧
      (Builtin.append_ ts ty #[cx, cy]).run P w = .ok (.slice (some ⟨w.heap.size, 0, none⟩) (len + n) C) (w.drew.alloc (.cells (old ++ new ++ rest).toArray e)) := by
  subst hx
  have hu0 := und_sl hd0
  have hu1 := und_sl hd1
  obtain ⟨i, hi, his⟩ := info_of hsz
  have hbi := by_of hi
  obtain ⟨zv, zc, h3, h4, h5⟩ := zero_rel (P := P) (ρ := fun _ => none) hz w.drew
  have hzc : zc.length = szT P e := by rw [← h5.length, hzl]
  have hneed : len + n ≤ (len + n) * byT P e := Nat.le_mul_of_pos_right _ hby
  have hmax : IntKind.i64.max = 9223372036854775807 := by decide
  have hc1 : ¬ ((((len + n : Nat) : Int) > IntKind.i64.max) ∧ (False ∨ i.bytes = 0)) := by rw [hmax]; omega
  have hc2 : ¬ (Builtin.nextslicecap (len + n) cap * i.bytes > 2 ^ 48) := by
    have a1 := nextcap_le (len + n) cap (by omega)
    rw [← hbi]
    have a2 : Builtin.nextslicecap (len + n) cap * byT P e ≤ (2 * (len + n) + 1000) * byT P e := Nat.mul_le_mul_right _ a1
    have a3 : (2 * (len + n) + 1000) * byT P e = 2 * ((len + n) * byT P e) + 1000 * byT P e := by rw [Nat.add_mul, Nat.mul_assoc]
    omega
  refine ⟨(len + n) + w.tape w.drawn (.appendCap (len + n) cap e) % (2 ^ 63 - (len + n)), (Builtin.zeroCells zc.toArray (w.tape w.drawn (.appendCap (len + n) cap e) % (2 ^ 63 - (len + n)))).toList, by omega, ?_, ?_⟩
  · simp [zeroCells_len, hzc]
  · have e0 : (#[Value.slice base len cap, cy] : Array Value)[0]? = some (.slice base len cap) := rfl
    have e1 : (#[Value.slice base len cap, cy] : Array Value)[1]? = some cy := rfl
    simp only [Builtin.append_, h0, h1, e0, e1, Sem.run_bind, run_underlying hu0, run_underlying hu1, Result.andThen_ok, run_sizeOf' hsz, Sem.run_pure, Bool.false_eq_true, if_false, hlen, hcap]
    have hti : ∀ w : World, (typeInfo e).run P w = .ok i w := fun w => by simp [typeInfo, hi]
    have hfo : (Question.appendCap (len + n) cap e).forced = false := rfl
    have hz2 : zc.length = zc.toArray.size := by simp
    simp only [hti, Result.andThen_ok, hc1, if_false, Sem.run_bind, hc2, run_choose, hfo, Bool.false_eq_true, run_askRoom, World.drew_eq, hold, Bool.not_false, if_true, hnew, h3, h4, newRow, run_newObj, Sem.run_pure, Question.cut]
    congr 2
    · rw [Nat.add_sub_cancel_left]
      congr 2
      apply Array.ext'; simp


/-- an append for which there is room -/
theorem app_room {w w' : World} {ts : Array TypeId} {ty t0 t1 e e1 : Nat} {a : Addr} {len cap n : Nat} {cy : Value} {new : List Value}
    (h0 : ts[0]? = some t0) (h1 : ts[1]? = some t1) (hd0 : dT P t0 = .sl e) (hd1 : dT P t1 = .sl e1) (hsz : 0 < szT P e)
    (hlen : (Builtin.lenOf cy).run P w = .ok n w) (hcap : len + n ≤ cap) (hnew : (Builtin.firstCells (szT P e) n cy).run P w = .ok new.toArray w)
    (hst : (storeCells (a.add (len * szT P e)) new).run P w = .ok () w') :
    (Builtin.append_ ts ty #[.slice (some a) len cap, cy]).run P w = .ok (.slice (some a) (len + n) cap) w' := by
  have hu0 := und_sl hd0
  have hu1 := und_sl hd1
  have e0 : (#[Value.slice (some a) len cap, cy] : Array Value)[0]? = some (.slice (some a) len cap) := rfl
  have e1 : (#[Value.slice (some a) len cap, cy] : Array Value)[1]? = some cy := rfl
  simp only [Builtin.append_, h0, h1, e0, e1, Sem.run_bind, run_underlying hu0, run_underlying hu1, Result.andThen_ok, run_sizeOf' hsz, Sem.run_pure, Bool.false_eq_true, if_false, hlen, hcap, if_true, Bool.not_false, hnew, hst]

theorem cell_alloc_lt {w : World} (o : Obj) {b j : Nat} (h : b < w.heap.size) : (w.alloc o).cell? ⟨b, j, none⟩ = w.cell? ⟨b, j, none⟩ := cell_of_block (alloc_block w o b h) _ _

theorem appA_run {ts : Array TypeId} {ty : Nat} {H H' : AH} {vs : List AV} {cs : List Value} {v : AV} {w : World} (h : appA P ts vs H = some (v, H')) (hv : L2 (VRel ρ) vs cs) (hH : HR ρ w H) :
    ∃ w' ρ' vc, Eff ρ w H w' ρ' H' ∧ (Builtin.append_ ts ty cs.toArray).run P w = .ok vc w' ∧ VRel ρ' v vc := by
  unfold appA at h
  split at h <;> try (simp at h; done)
  rename_i t0 t1 h0 h1
  split at h <;> try (simp at h; done)
  rename_i e e1 x y hd0 hd1
  split at h <;> try (simp at h; done)
  rename_i new n z hsrc hz
  split at h <;> try (simp at h; done)
  rename_i hc
  obtain ⟨hsz, hby, hby2, hzl, hone⟩ := hc
  obtain ⟨cx, cy, rfl, hx, hy⟩ := hv.two
  obtain ⟨nv, hnl, hnr, hlen, hnmax, hnew⟩ := src_run (P := P) hH hsrc hy
  have hnw := hnew w fun _ _ _ => rfl
  have hnwd := hnew w.drew fun _ _ _ => rfl
  have hneed : ∀ k, k ≤ k * byT P e := fun k => Nat.le_mul_of_pos_right _ hby
  split at h
  · rename_i id off ver len
    split at h <;> try (simp at h; done)
    rename_i sz os hob
    split at h <;> simp at h
    rename_i hc
    obtain ⟨rfl, rfl, rfl, hos, hb⟩ := hc
    obtain ⟨rfl, rfl⟩ := h
    obtain ⟨L, base, cap, g1, rfl, gn, g2, g3, g4, g5⟩ := (show SlRel ρ id 0 os.length len cx from hx)
    have hO := hH.obj id
    rw [hob] at hO
    obtain ⟨L', k1, k2, k3, k4, k5, k6⟩ := hO
    obtain rfl : L = L' := by simpa [g1] using k1
    have g6 := g5 k3.symm
    have hown : (hg H id).owned = true := by rw [hob]; rfl
    have hid := hg_lt (AObj.owned_live hown)
    have hnl2 := hnr.length
    have hk := hneed (len + n)
    have hrl : (os ++ new).length = os.length + new.length := by simp
    have hst : ∀ L' : Loc, L'.row = os.length + new.length → (new.length = 0 → L' = L) → Stab ρ (upd ρ id L') := by
      intro L' hr he i Li hi
      by_cases hii : i = id
      · subst hii
        refine ⟨L', upd_same _ _ _, ?_⟩
        obtain rfl : L = Li := by simpa [g1] using hi
        rcases Nat.eq_zero_or_pos new.length with hz | hz
        · exact .inl (he hz)
        · right; omega
      · exact ⟨Li, by rw [upd_ne _ _ hii, hi], .inl rfl⟩
    have hset : ∀ i, hg (H.set id (.vec (szT P e) (os ++ new))) i = if i = id then .vec (szT P e) (os ++ new) else hg H i := fun i => hg_set _ _ _ _ hid
    by_cases hroom : len + n ≤ cap
    · -- room
      by_cases hnil : L.nil = true
      · rw [if_pos hnil] at g6 k6
        obtain ⟨rfl, _, rfl, rfl⟩ := g6
        obtain ⟨rfl, _⟩ := k6
        have hn0 : n = 0 := by omega
        subst hn0
        have hnew0 : new = [] := List.eq_nil_of_length_eq_zero (by rw [hnl2, hnl]; simp)
        subst hnew0
        have hH0 : H.set id (.vec (szT P e) ([] ++ [])) = H := by
          apply List.ext_getElem? ; intro i
          rw [List.getElem?_set]
          split
          · subst_vars
            have : H[i]? = some (hg H i) := by unfold hg; rw [List.getD_eq_getElem?_getD]; simp [hid]
            rw [this, hob]; simp
          · rfl
        rw [hH0]
        refine ⟨w, ρ, .slice none 0 0, ⟨hH, Stab.refl ρ, fun _ _ a b => ⟨a, b⟩, Nat.le_refl _, fun _ _ _ h => h⟩, ?_, ?_⟩
        · have hu0 := und_sl hd0
          have hu1 := und_sl hd1
          have e0 : (#[Value.slice none 0 0, cy] : Array Value)[0]? = some (.slice none 0 0) := rfl
          have e2 : (#[Value.slice none 0 0, cy] : Array Value)[1]? = some cy := rfl
          simp only [Builtin.append_, h0, h1, e0, e2, Sem.run_bind, run_underlying hu0, run_underlying hu1, Result.andThen_ok, run_sizeOf' hsz, Sem.run_pure, Bool.false_eq_true, if_false, hlen, Nat.le_refl, if_true, Bool.not_false, hnw]
        · exact ⟨L, none, 0, g1, rfl, by simp, by omega, by omega, by simp, fun _ => by rw [if_pos hnil]; simp⟩
      · rw [if_neg hnil] at g6 k6
        have hnil' : L.nil = false := by simpa using hnil
        obtain ⟨a, rfl, g7, g8, _⟩ := g6
        obtain rfl := g7 (.inl rfl)
        have hcap := g8 rfl k4
        obtain ⟨c, d, t, k7, k8, k9⟩ := k6
        have hcl := k9.length
        have hcd : len * szT P e + nv.length ≤ (c ++ d).length := by
          rw [hnl, ← Nat.add_mul, ← k8, ← hcap]; exact Nat.mul_le_mul_right _ hroom
        obtain ⟨w', m1, m2⟩ := run_storeCells (P := P) t L.blk nv w (c ++ d) 0 (len * szT P e) k7 (one_all hnr hone) (by omega)
        have e3 : (c ++ d).take (len * szT P e + 0) ++ nv ++ (c ++ d).drop (len * szT P e + 0 + nv.length) = (c ++ nv) ++ d.drop nv.length := by
          have : len * szT P e = c.length := by omega
          rw [this, Nat.add_zero, List.take_append_of_le_length (Nat.le_refl _), List.take_length, List.drop_append]; simp
        rw [e3] at m2
        have hL' := hst { L with row := os.length + new.length } rfl (fun hz => by simp only [hz, Nat.add_zero, ← k3])
        refine ⟨w', upd ρ id { L with row := os.length + new.length }, _, ⟨⟨?_, ?_, ?_⟩, hL', ?_, by simp, ?_⟩, app_room (ty := ty) h0 h1 hd0 hd1 hsz hlen hroom hnw (by rw [Addr.add_none, k2]; simpa using m1), ?_⟩
        · intro i
          rw [hset]
          split
          · subst_vars
            refine ⟨_, upd_same _ _ _, k2, by simp, k4, k5, ?_⟩
            rw [if_neg hnil]
            refine ⟨c ++ nv, d.drop nv.length, t, m2.this, ?_, ?_⟩
            · show L.cap * szT P e = _
              rw [k8]; simp at hcd ⊢; omega
            · exact (k9.mono fun _ _ h => SRel.mono h hL').app (hnr.mono fun _ _ h => SRel.mono h hL')
          · rename_i hne
            refine (hH.obj i).keep hL' (upd_ne _ _ hne) (fun Li hi hn hlv => ?_) (by rw [m2.size]; omega)
            exact m2.other _ (fun e => hH.sep id i L Li (fun e => hne e.symm) hown g1 hnil' hlv hi hn e.symm)
        · intro i j Li Lj hij hio hLi hni hjl hLj hnj
          rw [hset] at hio hjl
          have tr : ∀ (k : Nat) (Lk : Loc), upd ρ id { L with row := os.length + new.length } k = some Lk → ∃ Lk', ρ k = some Lk' ∧ Lk'.blk = Lk.blk ∧ Lk'.nil = Lk.nil := by
            intro k Lk hk
            by_cases e : k = id
            · subst e; rw [upd_same] at hk; simp at hk; subst hk; exact ⟨L, g1, rfl, rfl⟩
            · rw [upd_ne _ _ e] at hk; exact ⟨Lk, hk, rfl, rfl⟩
          obtain ⟨Mi, a1, a2, a3⟩ := tr i Li hLi
          obtain ⟨Mj, b1, b2, b3⟩ := tr j Lj hLj
          rw [← a2, ← b2]
          have hio' : (hg H i).owned = true := by split at hio; subst_vars; exact hown; exact hio
          have hjl' : (hg H j).live = true := by split at hjl; subst_vars; exact AObj.owned_live hown; exact hjl
          exact hH.sep i j Mi Mj hij hio' a1 (by rw [a3, hni]) hjl' b1 (by rw [b3, hnj])
        · intro i hi
          simp at hi
          rw [upd_ne _ _ (by omega)]; exact hH.fresh i hi
        · intro w0 M hk hm
          refine ⟨hk.setB m2 (hm id L hown g1 hnil'), fun i Li hio hLi hni => ?_⟩
          rw [hset] at hio
          by_cases e : i = id
          · subst e; rw [upd_same] at hLi; simp at hLi; subst hLi; exact hm _ L hown g1 hnil'
          · rw [if_neg e] at hio; rw [upd_ne _ _ e] at hLi; exact hm _ _ hio hLi hni
        · intro i Li hio hLi
          have : i ≠ id := by rintro rfl; rw [hown] at hio; simp at hio
          rw [upd_ne _ _ this, hLi]
        · refine ⟨_, _, _, upd_same _ _ _, rfl, by simp, hroom, by omega, Nat.le_refl _, fun _ => ?_⟩
          rw [if_neg hnil]
          refine ⟨_, rfl, fun _ => rfl, fun _ _ => hcap, fun hp _ => ?_⟩
          show 0 < os.length + new.length
          rw [hos, hnl2, hnl, ← Nat.add_mul]; exact Nat.mul_pos hp hsz
    · -- no room
      obtain ⟨ov, o1, o2, o3⟩ : ∃ ov : List Value, ov.length = len * szT P e ∧ L2 (SRel ρ) os ov ∧ (Builtin.firstCells (szT P e) len (.slice base len cap)).run P w.drew = .ok ov.toArray w.drew := by
        by_cases hnil : L.nil = true
        · rw [if_pos hnil] at g6 k6
          obtain ⟨rfl, _, rfl, rfl⟩ := g6
          obtain ⟨rfl, _⟩ := k6
          exact ⟨[], by simp, .nil, by simp [Builtin.firstCells]⟩
        · rw [if_neg hnil] at g6
          obtain ⟨a, rfl, g7, g8, _⟩ := g6
          obtain rfl := g7 (.inl rfl)
          obtain ⟨vs, h8, h9, h10⟩ := cells_run (P := P) (off := 0) (n := len * szT P e) (hH.obj id) g1 (by rw [hob]; simp [AObj.cells, hos])
          rw [hob] at h9
          have e4 : ((AObj.vec (szT P e) os).cells.drop 0).take (len * szT P e) = os := by simp [AObj.cells, ← hos]
          rw [e4] at h9
          exact ⟨vs, h8, h9, by simp only [Builtin.firstCells]; exact h10 w.drew fun _ => rfl⟩
      obtain ⟨C, rest, c1, c2, c3⟩ := app_grow (ty := ty) h0 h1 hd0 hd1 rfl hsz hby hby2 hz hzl hlen hroom hb o3 hnwd
      have hnpos : 0 < n := by omega
      have hnewpos : 0 < new.length := by rw [hnl2, hnl]; exact Nat.mul_pos hnpos hsz
      have hL' := hst ⟨w.heap.size, 0, C, os.length + new.length, false, true⟩ rfl (fun hz => by omega)
      have hrel : L2 (SRel ρ) (os ++ new) (ov ++ nv) := o2.app hnr
      have hcap : C * szT P e = ((ov ++ nv) ++ rest).length := by
        simp only [List.length_append, o1, hnl, c2]
        rw [← Nat.add_mul, ← Nat.add_mul]; congr 1; omega
      have hr := HR.new hH.drew hrel e id (szT P e) ⟨w.heap.size, 0, C, os.length + new.length, false, true⟩ rfl rfl rfl (by simp) rfl hsz hcap hL' hset (by simp) (by simpa using hid)
      refine ⟨_, _, _, ⟨hr, hL', fun w0 M hk hm => ⟨hk.drew.alloc _ _, fun i Li hio hLi hni => ?_⟩, by simp, fun i Li hio hLi => ?_⟩, c3, ?_⟩
      · rw [hset] at hio
        by_cases e : i = id
        · subst e; rw [upd_same] at hLi; simp at hLi; subst hLi; exact .inr hk.size
        · rw [if_neg e] at hio; rw [upd_ne _ _ e] at hLi; exact hm _ _ hio hLi hni
      · have : i ≠ id := by rintro rfl; rw [hown] at hio; simp at hio
        rw [upd_ne _ _ this, hLi]
      · refine ⟨_, _, _, upd_same _ _ _, rfl, by simp, c1, by omega, Nat.le_refl _, fun _ => ?_⟩
        rw [if_neg (by simp)]
        exact ⟨_, rfl, fun _ => rfl, fun _ _ => rfl, fun _ _ => by show 0 < os.length + new.length; omega⟩
  · split at h <;> simp at h
    rename_i hc
    obtain ⟨hn0, hb⟩ := hc
    obtain ⟨rfl, rfl⟩ := h
    cases hx
    obtain ⟨C, rest, c1, c2, c3⟩ := app_grow (ty := ty) (base := none) (len := 0) (cap := 0) (n := n) (old := []) h0 h1 hd0 hd1 rfl hsz hby hby2 hz hzl hlen (by omega) (by simpa using hb) (by simp [Builtin.firstCells]) hnwd
    have hst : Stab ρ (upd ρ H.length ⟨w.heap.size, 0, C, new.length, false, true⟩) := by
      intro i Li hi
      have : i ≠ H.length := by rintro rfl; rw [hH.fresh _ (Nat.le_refl _)] at hi; simp at hi
      exact ⟨Li, by rw [upd_ne _ _ this, hi], .inl rfl⟩
    have hnl2 := hnr.length
    have hcap : C * szT P e = (nv ++ rest).length := by
      simp only [List.length_append, hnl, c2]
      rw [← Nat.add_mul]; congr 1; omega
    have hr := HR.new hH.drew hnr e H.length (szT P e) ⟨w.heap.size, 0, C, new.length, false, true⟩ rfl rfl rfl rfl rfl hsz hcap hst (hg_append H _) (by simp) (by simp)
    rw [Nat.zero_add, List.nil_append] at c3
    have hk := hneed n
    refine ⟨_, _, _, ⟨hr, hst, fun w0 M hk hm => ⟨hk.drew.alloc _ _, fun i Li hio hLi hni => ?_⟩, by simp, fun i Li hio hLi => ?_⟩, c3, ?_⟩
    · rw [hg_append] at hio
      by_cases e : i = H.length
      · subst e; rw [upd_same] at hLi; simp at hLi; subst hLi; exact .inr hk.size
      · rw [if_neg e] at hio; rw [upd_ne _ _ e] at hLi; exact hm _ _ hio hLi hni
    · have : i ≠ H.length := by rintro rfl; rw [hH.fresh _ (Nat.le_refl _)] at hLi; simp at hLi
      rw [upd_ne _ _ this, hLi]
    · refine ⟨_, _, _, upd_same _ _ _, rfl, by simp, by omega, by omega, Nat.le_refl _, fun _ => ?_⟩
      rw [if_neg (by simp)]
      refine ⟨_, rfl, fun _ => rfl, fun _ _ => rfl, fun hp _ => ?_⟩
      show 0 < new.length
      rw [hnl2, hnl]; exact Nat.mul_pos hp hsz
  · simp at h

end Go.Am

/- The runs: 'arun', and calls of functions whose contracts a table holds. -/
namespace Go.Am

/-- a contract: a function of values alone -/
inductive Ent where
  | pu (s : List AV → Option AV)
  | fp (foot : List AV → AH → List Nat) (s : List AV → AH → Option (AV × AH))
abbrev Tab := List (Nat × Ent)
def look : Tab → Nat → Option Ent
  | [], _ => none
  | (g, e) :: r, f => if g = f then some e else look r f

def callA (tab : Tab) (f : Nat) (args : List AV) (H : AH) : Option (AV × AH) :=
  match look tab f with
  | some (.pu s) => (s args).map fun v => (v, H)
  | _ => none

def capV (c : Nat × Nat × Nat) : AV := .c (.p c.1 c.2.1 c.2.2)

def astep (P : Program) (tab : Tab) (op : Op) (vs : List AV) (H : AH) : Option (AV × AH) :=
  match op, vs with
  | .call ⟨.value _, _, _⟩, .c (.f fn cs) :: args => callA tab fn (args ++ cs.map capV) H
  | .call ⟨.value _, _, _⟩, _ => none
  | .call ⟨.builtin .append, _, ts⟩, vs => appA P ts vs H
  | op, vs =>
    match qop P op vs ((touch op vs).map (hg H)) with
    | some v => some (v, H)
    | none => eop P op vs H

inductive It where
  | c (c : Code)
  | ops (full : Array Oper) (l : List Oper)
  | blk (id : Nat)
  | back (I : Fr → AH → Prop)

def cwt : Code → Nat
  | .region _ ops _ => ops.size + 3
  | .seq a b => cwt a + cwt b + 1
  | .cond _ a b => cwt a + cwt b + 1
  | .block _ c => cwt c + 2
  | .loop c => cwt c + 2
  | _ => 1
def It.wt : It → Nat
  | .c x => cwt x
  | .ops _ l => l.length + 1
  | _ => 1
def kwt (k : List It) : Nat := (k.map It.wt).sum
def popB (id : Nat) : List It → Option (List It)
  | [] => none
  | .blk i :: k => if i = id then some k else popB id k
  | _ :: k => popB id k
theorem popB_wt {id : Nat} {k k' : List It} (h : popB id k = some k') : kwt k' < kwt k + 1 := by
  induction k with
  | nil => simp [popB] at h
  | cons x k ih =>
    cases x <;> simp only [popB] at h
    case blk i =>
      split at h
      · simp at h; subst h; simp [kwt, It.wt]; omega
      · have := ih h; simp [kwt, It.wt] at this ⊢; omega
    all_goals (have := ih h; simp [kwt] at this ⊢; omega)

/-- what a guard's slot says: a bool, or nothing -/
def gval (full : Array Oper) (fr : Fr) (j : Nat) : Option (Option Bool) :=
  match (full[j]?).bind (·.dst) with
  | none => some none
  | some d => match get fr d with
    | .c (.b q) => some (some q)
    | .c .und => some none
    | _ => none
def putA (d : Option Nat) (v : AV) (fr : Fr) : Fr :=
  match d with
  | some d => (d, v) :: fr
  | none => fr

/-- one state is covered by another one -/
def Wk (fr : Fr) (H : AH) (S : Fr × AH) : Prop :=
  ∀ (ρ : Ro) (w : World) (tm : Nat → Value), (∀ s, VRel ρ (get fr s) (tm s)) → HR ρ w H →
    ∃ ρ', (∀ s, VRel ρ' (get S.1 s) (tm s)) ∧ HR ρ' w S.2 ∧ (∀ i L, (hg S.2 i).owned = true → ρ' i = some L → L.nil = false → ∃ j, (hg H j).owned = true ∧ ρ j = some L)

set_option linter.unusedVariables false in
def arun (P : Program) (tab : Tab) (k : List It) (fr : Fr) (H : AH) (Q : Fr → AH → Prop) : Prop :=
  match k with
  | [] => Q fr H
  | .blk _ :: k => arun P tab k fr H Q
  | .back I :: _ => I fr H
  | .ops _ [] :: k => arun P tab k fr H Q
  | .ops full (o :: os) :: k =>
    match o.guard with
    | none =>
      match astep P tab o.op ((opnds o.op).map (ev fr)) H with
      | some (v, H') => arun P tab (.ops full os :: k) (putA o.dst v fr) H' Q
      | none => False
    | some (j, want) =>
      match gval full fr j with
      | some (some q) =>
        if q = want then
          match astep P tab o.op ((opnds o.op).map (ev fr)) H with
          | some (v, H') => arun P tab (.ops full os :: k) (putA o.dst v fr) H' Q
          | none => False
        else arun P tab (.ops full os :: k) (putA o.dst (.c .und) fr) H Q
      | some none => arun P tab (.ops full os :: k) (putA o.dst (.c .und) fr) H Q
      | none => False
  | .c .skip :: k => arun P tab k fr H Q
  | .c (.region _ ops _) :: k => arun P tab (.ops ops ops.toList :: k) fr H Q
  | .c (.seq a b) :: k => arun P tab (.c a :: .c b :: k) fr H Q
  | .c (.cond x a b) :: k =>
    match ev fr x with
    | .c (.b q) => if q = true then arun P tab (.c a :: k) fr H Q else arun P tab (.c b :: k) fr H Q
    | _ => False
  | .c (.block id c) :: k => arun P tab (.c c :: .blk id :: k) fr H Q
  | .c (.loop c) :: k => ∃ (ι : Type) (F : ι → Fr × AH) (μ : ι → Nat) (i0 : ι), Wk fr H (F i0) ∧
      ∀ i, arun P tab (.c c :: .back (fun fr H => ∃ j, μ j < μ i ∧ Wk fr H (F j)) :: k) (F i).1 (F i).2 Q
  | .c (.exit id) :: k =>
    match h : popB id k with
    | some k' => arun P tab k' fr H Q
    | none => False
  | .c .ret :: _ => Q fr H
  | .c _ :: _ => False
termination_by kwt k
decreasing_by
  all_goals simp_wf
  all_goals first
    | (simp [kwt, It.wt, cwt]; done)
    | (simp [kwt, It.wt, cwt]; omega)
    | (have hh := popB_wt ‹_›; simp [kwt, It.wt, cwt] at hh ⊢; omega)

end Go.Am

/- What 'arun' says holds of the model. -/
namespace Go.Am
variable {P : Program} {tab : Tab}

section eqs
variable {k : List It} {fr : Fr} {H : AH} {Q : Fr → AH → Prop}
theorem arun_nil : arun P tab [] fr H Q = Q fr H := by rw [arun]
theorem arun_blk {id : Nat} : arun P tab (.blk id :: k) fr H Q = arun P tab k fr H Q := by rw [arun]
theorem arun_back {I : Fr → AH → Prop} : arun P tab (.back I :: k) fr H Q = I fr H := by rw [arun]
theorem arun_ops_nil {full : Array Oper} : arun P tab (.ops full [] :: k) fr H Q = arun P tab k fr H Q := by rw [arun]
theorem arun_skip : arun P tab (.c .skip :: k) fr H Q = arun P tab k fr H Q := by rw [arun]
theorem arun_region {id : Nat} {ops : Array Oper} {d : Bool} : arun P tab (.c (.region id ops d) :: k) fr H Q = arun P tab (.ops ops ops.toList :: k) fr H Q := by rw [arun]
theorem arun_seq {a b : Code} : arun P tab (.c (.seq a b) :: k) fr H Q = arun P tab (.c a :: .c b :: k) fr H Q := by rw [arun]
theorem arun_block {id : Nat} {c : Code} : arun P tab (.c (.block id c) :: k) fr H Q = arun P tab (.c c :: .blk id :: k) fr H Q := by rw [arun]
theorem arun_ret : arun P tab (.c .ret :: k) fr H Q = Q fr H := by rw [arun]
theorem arun_exit {id : Nat} : arun P tab (.c (.exit id) :: k) fr H Q = match popB id k with | some k' => arun P tab k' fr H Q | none => False := by
  rw [arun]; split <;> simp_all
theorem arun_cond {x : Operand} {a b : Code} : arun P tab (.c (.cond x a b) :: k) fr H Q = match ev fr x with | .c (.b q) => if q = true then arun P tab (.c a :: k) fr H Q else arun P tab (.c b :: k) fr H Q | _ => False := by rw [arun] <;> rfl
theorem arun_loop {c : Code} : arun P tab (.c (.loop c) :: k) fr H Q = ∃ (ι : Type) (F : ι → Fr × AH) (μ : ι → Nat) (i0 : ι), Wk fr H (F i0) ∧
      ∀ i, arun P tab (.c c :: .back (fun fr H => ∃ j, μ j < μ i ∧ Wk fr H (F j)) :: k) (F i).1 (F i).2 Q := by rw [arun]
theorem arun_op {full : Array Oper} {o : Oper} {os : List Oper} : arun P tab (.ops full (o :: os) :: k) fr H Q =
    match o.guard with
    | none =>
      match astep P tab o.op ((opnds o.op).map (ev fr)) H with
      | some (v, H') => arun P tab (.ops full os :: k) (putA o.dst v fr) H' Q
      | none => False
    | some (j, want) =>
      match gval full fr j with
      | some (some q) =>
        if q = want then
          match astep P tab o.op ((opnds o.op).map (ev fr)) H with
          | some (v, H') => arun P tab (.ops full os :: k) (putA o.dst v fr) H' Q
          | none => False
        else arun P tab (.ops full os :: k) (putA o.dst (.c .und) fr) H Q
      | some none => arun P tab (.ops full os :: k) (putA o.dst (.c .und) fr) H Q
      | none => False := by rw [arun] <;> rfl
end eqs

/-! ### the table's contracts -/
def ρ0 : Ro := fun _ => none
structure PuOk (P : Program) (f : Nat) (s : List AV → Option AV) : Prop where
  enters : ∀ args w, (callFunc f args).run P w = .ok (.enter f args) w
  pure : ∀ args v, s args = some v → ∀ (ρ : Ro) (w : World) (cs : List Value), L2 (VRel ρ) args cs →
    Calls P f cs.toArray w fun e w' => ∃ vc, e = .returned vc ∧ (∀ ρ' : Ro, VRel ρ' v vc) ∧ Keep w (fun _ => False) w'
def EntOk (P : Program) (f : Nat) : Ent → Prop
  | .pu s => PuOk P f s
  | .fp _ _ => False
def TabOk (P : Program) (tab : Tab) : Prop := ∀ f e, look tab f = some e → EntOk P f e

theorem TabOk.nil : TabOk P [] := fun f e h => by simp [look] at h
theorem TabOk.cons {f : Nat} {e : Ent} (h : EntOk P f e) (ht : TabOk P tab) : TabOk P ((f, e) :: tab) := by
  intro g x hx
  simp only [look] at hx
  split at hx
  · simp at hx; subst_vars; exact h
  · exact ht g x hx

/-! ### states -/
structure St (N : Nat) (w0 : World) (M : Nat → Prop) (ρ : Ro) (fr : Fr) (H : AH) (a : Act) (w : World) : Prop where
  fr : ∀ s, VRel ρ (get fr s) (a.tmps.getD s undef)
  sz : a.tmps.size = N
  df : a.defers = []
  hr : HR ρ w H
  kp : Keep w0 M w
  ow : ∀ i L, (hg H i).owned = true → ρ i = some L → L.nil = false → (M L.blk ∨ w0.heap.size ≤ L.blk)

variable {N : Nat} {w0 : World} {M : Nat → Prop} {ρ : Ro} {fr : Fr} {H : AH} {a : Act} {w : World}

def dstOk (N : Nat) : Option Nat → Bool
  | none => true
  | some d => decide (d < N)

theorem St.put (h : St N w0 M ρ fr H a w) {d : Option Nat} {v : AV} {vc : Value} (hd : dstOk N d = true) (hv : VRel ρ v vc) : St N w0 M ρ (putA d v fr) H (a.put d vc) w := by
  cases d with
  | none => exact h
  | some d =>
    simp [dstOk] at hd
    refine ⟨fun s => ?_, by simp [Act.put, h.sz], h.df, h.hr, h.kp, h.ow⟩
    simp only [putA, get, Act.put]
    split
    · rename_i e
      rw [← e]
      have : (a.tmps.setIfInBounds d vc).getD d undef = vc := by
        simp [Array.getD_eq_getD_getElem?, h.sz, hd]
      rw [this]; exact hv
    · rename_i hne
      have : (a.tmps.setIfInBounds d vc).getD s undef = a.tmps.getD s undef := by
        simp [Array.getD_eq_getD_getElem?, Array.getElem?_setIfInBounds_ne hne]
      rw [this]; exact h.fr s

theorem St.eff (h : St N w0 M ρ fr H a w) {w' : World} {ρ' : Ro} {H' : AH} (he : Eff ρ w H w' ρ' H') : St N w0 M ρ' fr H' a w' := by
  obtain ⟨h1, h2⟩ := he.kp w0 M h.kp h.ow
  exact ⟨fun s => (h.fr s).mono he.st, h.sz, h.df, he.hr, h1, h2⟩

theorem ops_rel (h : St N w0 M ρ fr H a w) (l : List Operand) : L2 (VRel ρ) (l.map (ev fr)) (l.map a.eval) := by
  induction l with
  | nil => exact .nil
  | cons x l ih => exact .cons (ev_rel h.fr x) ih

theorem HR.keep {w w' : World} (h : HR ρ w H) (hk : Keep w (fun _ => False) w') : HR ρ w' H := by
  refine ⟨fun i => ?_, h.sep, h.fresh⟩
  refine (h.obj i).keep (Stab.refl ρ) rfl (fun L hi hn hl => ?_) hk.size
  exact hk.old _ ((h.obj i).blk_lt hi hn hl) (fun f => f)
theorem Keep.trans {w1 w2 : World} (h : Keep w0 M w1) (h' : Keep w1 (fun _ => False) w2) : Keep w0 M w2 := by
  refine ⟨h'.os.trans h.os, h'.tape.trans h.tape, h'.output.trans h.output, Nat.le_trans h.size h'.size, fun b hb hm => ?_, fun b c t f hf hm => ?_⟩
  · rw [h'.old b (Nat.lt_of_lt_of_le hb h.size) (fun f => f)]; exact h.old b hb hm
  · rcases Nat.lt_or_ge b w1.heap.size with hlt | hge
    · rw [h'.old b hlt (fun f => f)] at hf; exact h.free b c t f hf hm
    · exact h'.free b c t f hf (.inl hge)
theorem Eff.quiet {w' : World} (h : HR ρ w H) (hk : Keep w (fun _ => False) w') : Eff ρ w H w' ρ H :=
  ⟨h.keep hk, Stab.refl ρ, fun _ _ h1 h2 => ⟨h1.trans hk, h2⟩, Nat.le_refl _, fun _ _ _ h => h⟩

theorem caps_vals {cs : List (Nat × Nat × Nat)} {cv : List Value} (h : L2 (fun (c : Nat × Nat × Nat) v => PRel ρ c.1 c.2.1 c.2.2 v) cs cv) : L2 (VRel ρ) (cs.map capV) cv := by
  induction h with
  | nil => exact .nil
  | cons h _ ih => exact .cons h ih

/-- an operation's step -/
theorem op_wp {o : Oper} {v : AV} {H' : AH} {K : Act → World → Prop} {Q : Exit → Act → World → Prop} (ht : TabOk P tab) (hs : St N w0 M ρ fr H a w) (hd : dstOk N o.dst = true)
    (h : astep P tab o.op ((opnds o.op).map (ev fr)) H = some (v, H')) (hK : ∀ ρ' a' w', St N w0 M ρ' (putA o.dst v fr) H' a' w' → K a' w') : o.wp P a w K Q := by
  have hv := ops_rel hs (opnds o.op)
  have come : Come P ρ H w (execOp a.eval o) v H' → o.wp P a w K Q := by
    rintro ⟨w', ρ', he, ⟨vc, h1, h2⟩ | ⟨h1, h2⟩⟩
    · simp only [Oper.wp, h1, Oper.upon]
      exact hK _ _ _ ((hs.eff he).put hd h2)
    · simp only [Oper.wp, h1, Oper.upon]
      subst h2
      exact hK _ _ _ ((hs.eff he).put hd rfl)
  unfold astep at h
  split at h
  · -- a call
    rename_i op _ f as ts fn cs args hop hvs
    rw [hop] at hvs hv
    simp only [opnds, List.map_cons, List.cons.injEq] at hvs hv
    obtain ⟨hf, hargs⟩ := hvs
    have hfr := ev_rel hs.fr f
    rw [hf] at hfr
    obtain ⟨cv, hcv, hcr⟩ := hfr
    cases hv with
    | cons _ hv =>
      unfold callA at h
      split at h
      · rename_i s hl
        simp only [Option.map_eq_some_iff, Prod.mk.injEq] at h
        obtain ⟨v', h1, rfl, rfl⟩ := h
        obtain ⟨hen, hpu⟩ := ht fn _ hl
        have hrel : L2 (VRel ρ) (args ++ cs.map capV) (as.toList.map a.eval ++ cv) := by
          rw [← hargs]; exact hv.app (caps_vals hcr)
        have hcall := hpu _ _ h1 ρ w _ hrel
        have hrun : (execOp a.eval o).run P w = .ok (.enter fn (as.toList.map a.eval ++ cv).toArray) w := by
          have e1 : #[] ++ as.map a.eval ++ cv.toArray = (as.toList.map a.eval ++ cv).toArray := by apply Array.ext'; simp
          simp only [execOp, hop, resolve, hcv, Deferred.ofValue, Sem.run_bind, Sem.run_pure, Result.andThen_ok, invoke]
          rw [e1]; exact hen _ _
        simp only [Oper.wp, hrun, Oper.upon]
        refine hcall.mono ?_
        rintro e w' ⟨vc, rfl, h3, h4⟩
        exact hK _ _ _ ((hs.eff (Eff.quiet hs.hr h4)).put hd (h3 ρ))
      · simp at h
  · simp at h
  · -- append
    rename_i op _ as ts hop
    rw [hop] at hv h
    obtain ⟨w', ρ', vc, h1, h2, h3⟩ := appA_run (ty := o.type) h hv hs.hr
    refine come ⟨w', ρ', h1, .inl ⟨vc, ?_, h3⟩⟩
    have has : (List.map a.eval (opnds (Op.call ⟨.builtin .append, as, ts⟩))).toArray = as.map a.eval := by apply Array.ext'; simp [opnds]
    rw [has] at h2
    simp only [execOp, hop, resolve, Sem.run_bind, Sem.run_pure, Result.andThen_ok, invoke, builtin, h2]
  · split at h
    · rename_i v' hq
      simp at h
      obtain ⟨rfl, rfl⟩ := h
      obtain ⟨vc, h1, h2⟩ := qop_run (o := o) hq hv (fun i => hs.hr.obj i)
      exact come ⟨w, ρ, ⟨hs.hr, Stab.refl ρ, fun _ _ a b => ⟨a, b⟩, Nat.le_refl _, fun _ _ _ h => h⟩, .inl ⟨vc, h1, h2⟩⟩
    · exact come (eop_run (o := o) h hv hs.hr)

end Go.Am

/- Soundness of 'arun'. -/
namespace Go.Am
variable {P : Program} {tab : Tab} {N : Nat} {w0 : World} {M : Nat → Prop}

/-- a region's operations write slots that are there -/
def opsOk (N : Nat) (l : List Oper) : Bool := l.all fun o => dstOk N o.dst
def okC (N : Nat) (drawn : Array Oper → Bool) : Code → Bool
  | .region _ ops d => opsOk N ops.toList && (!d || drawn ops)
  | .seq a b => okC N drawn a && okC N drawn b
  | .cond _ a b => okC N drawn a && okC N drawn b
  | .block _ c => okC N drawn c
  | .loop c => okC N drawn c
  | _ => true
def okI (N : Nat) (drawn : Array Oper → Bool) : It → Bool
  | .c x => okC N drawn x
  | .ops _ l => opsOk N l
  | _ => true
def okK (N : Nat) (drawn : Array Oper → Bool) (k : List It) : Bool := k.all (okI N drawn)

/-- a state that is one of some abstract ones -/
def SI (N : Nat) (w0 : World) (M : Nat → Prop) (I : Fr → AH → Prop) (a : Act) (w : World) : Prop := ∃ ρ fr H, St N w0 M ρ fr H a w ∧ I fr H

def Kp (P : Program) (N : Nat) (w0 : World) (M : Nat → Prop) (Q : Fr → AH → Prop) : List It → Exit → Act → World → Prop
  | [] => fun e a w => match e with
    | .normal | .ret => SI N w0 M Q a w
    | _ => False
  | .c x :: k => Exit.then (x.wp P (Kp P N w0 M Q k)) (Kp P N w0 M Q k)
  | .ops full l :: k => Exit.then (wpList P full (Kp P N w0 M Q k) l) (Kp P N w0 M Q k)
  | .blk id :: k => Exit.inBlock id (Kp P N w0 M Q k)
  | .back I :: k => Exit.then (SI N w0 M I) (Kp P N w0 M Q k)

theorem Kp_ret {Q : Fr → AH → Prop} {a : Act} {w : World} (h : SI N w0 M Q a w) : ∀ k, Kp P N w0 M Q k .ret a w := by
  intro k
  induction k with
  | nil => exact h
  | cons x k ih => cases x <;> exact ih
theorem Kp_exit {Q : Fr → AH → Prop} {a : Act} {w : World} {id : Nat} : ∀ (k k' : List It), popB id k = some k' → Kp P N w0 M Q k' .normal a w → Kp P N w0 M Q k (.exit id) a w := by
  intro k
  induction k with
  | nil => intro k' h; simp [popB] at h
  | cons x k ih =>
    intro k' h hk
    cases x with
    | blk i =>
      simp only [popB] at h
      simp only [Kp, Exit.inBlock]
      split at h
      · simp at h; subst h; subst_vars; rw [if_pos rfl]; exact hk
      · rename_i hne; rw [if_neg (fun e => hne e.symm)]; exact ih _ h hk
    | c x => exact ih _ h hk
    | ops f l => exact ih _ h hk
    | back I => exact ih _ h hk

theorem wp_loopI {c : Code} {Q : Exit → Act → World → Prop} {a : Act} {w : World} (I : Nat → Act → World → Prop) (n : Nat) (h₀ : I n a w)
    (round : ∀ n a w, I n a w → c.wp P (Exit.then (fun a' w' => ∃ m, m < n ∧ I m a' w') Q) a w) : (Code.loop c).wp P Q a w := by
  intro b k cs
  have key : ∀ n a w, I n a w → ∃ e a' w', Q e a' w' ∧ Arrives P (lone (b.at a (.code c :: .inLoop c :: k)) cs w) b k cs e a' w' := by
    intro n
    induction n using Nat.strongRecOn with
    | _ n ih =>
      intro a w hI
      obtain ⟨e, a₁, w₁, hq, harr⟩ := round n a w hI b (.inLoop c :: k) cs
      cases e with
      | normal =>
        obtain ⟨m, hm, hI₁⟩ := hq
        obtain ⟨e₂, a₂, w₂, hq₂, harr₂⟩ := ih m hm a₁ w₁ hI₁
        exact ⟨e₂, a₂, w₂, hq₂, .of_steps (Steps.trans harr (.one step_inLoop)) harr₂⟩
      | exit id => exact ⟨_, a₁, w₁, hq, .pass (x := .inLoop c) rfl (fun _ _ => .inl (by simp)) harr⟩
      | goto l => exact ⟨_, a₁, w₁, hq, .pass (x := .inLoop c) rfl (fun _ _ => .inl (by simp)) harr⟩
      | ret => exact ⟨_, a₁, w₁, hq, .pass (x := .inLoop c) rfl (fun _ _ => .inl (by simp)) harr⟩
      | panic ch => exact ⟨_, a₁, w₁, hq, .pass (x := .inLoop c) rfl (fun _ _ => .inl (by simp)) harr⟩
      | outgrown => exact ⟨_, a₁, w₁, hq, .pass (x := .inLoop c) rfl (fun _ _ => .inl (by simp)) harr⟩
  obtain ⟨e, a', w', hq, harr⟩ := key n a w h₀
  exact ⟨e, a', w', hq, .of_steps (.one step_loop) harr⟩

theorem St.wk {ρ : Ro} {fr : Fr} {H : AH} {a : Act} {w : World} (h : St N w0 M ρ fr H a w) {S : Fr × AH} (hw : Wk fr H S) : ∃ ρ', St N w0 M ρ' S.1 S.2 a w := by
  obtain ⟨ρ', h1, h2, h3⟩ := hw ρ w (fun s => a.tmps.getD s undef) h.fr h.hr
  refine ⟨ρ', h1, h.sz, h.df, h2, h.kp, fun i L hi hL hn => ?_⟩
  obtain ⟨j, hj, hL'⟩ := h3 i L hi hL hn
  exact h.ow j L hj hL' hn

/-- a region that draws its order comes to what the text's order comes to -/
def DrawOk (P : Program) (tab : Tab) (N : Nat) (ops : Array Oper) : Prop :=
  ∀ (id : Nat) (w0 : World) (M : Nat → Prop) (ρ : Ro) (fr : Fr) (H : AH) (a : Act) (w : World) (k : List It) (Q : Fr → AH → Prop) (R : Exit → Act → World → Prop),
    St N w0 M ρ fr H a w → arun P tab (.ops ops ops.toList :: k) fr H Q →
    (∀ fr' H', arun P tab k fr' H' Q → ∀ ρ' a' w', St N w0 M ρ' fr' H' a' w' → R .normal a' w') → (Code.region id ops true).wp P R a w

theorem gval_spec {full : Array Oper} {ρ : Ro} {fr : Fr} {a : Act} {j : Nat} {r : Option Bool} (h : gval full fr j = some r) (hf : ∀ s, VRel ρ (get fr s) (a.tmps.getD s undef)) :
    yielded full a.tmps j = r := by
  unfold gval at h
  unfold yielded
  cases hd : (full[j]?).bind (·.dst) with
  | none => rw [hd] at h; simp at h; subst h; rfl
  | some d =>
    rw [hd] at h
    simp only [Option.bind_some]
    have hv := hf d
    simp only at h
    split at h
    · rename_i q hg
      simp at h; subst h
      rw [hg] at hv
      have hv' : a.tmps.getD d undef = .bool q := hv
      have hlt : d < a.tmps.size := by
        rcases Nat.lt_or_ge d a.tmps.size with h | h
        · exact h
        · simp [Array.getD_eq_getD_getElem?, Array.getElem?_eq_none h, undef] at hv'
      have : a.tmps[d]? = some (.bool q) := by
        rw [Array.getElem?_eq_getElem hlt]; rw [Array.getD_eq_getD_getElem?, Array.getElem?_eq_getElem hlt] at hv'; simpa using hv'
      rw [this]
    · rename_i hg
      simp at h; subst h
      rw [hg] at hv
      have hv' : a.tmps.getD d undef = undef := hv
      rcases Nat.lt_or_ge d a.tmps.size with hlt | hge
      · have : a.tmps[d]? = some undef := by
          rw [Array.getElem?_eq_getElem hlt]; rw [Array.getD_eq_getD_getElem?, Array.getElem?_eq_getElem hlt] at hv'; simpa using hv'
        rw [this]; rfl
      · rw [Array.getElem?_eq_none hge]
    · simp at h

/-- the operations of a region, in the text's order -/
theorem ops_sound (ht : TabOk P tab) {full : Array Oper} {k : List It} {Q : Fr → AH → Prop} {R : Exit → Act → World → Prop}
    (hK : ∀ fr' H', arun P tab k fr' H' Q → ∀ ρ' a' w', St N w0 M ρ' fr' H' a' w' → R .normal a' w') :
    ∀ (l : List Oper), opsOk N l = true → ∀ ρ fr H a w, arun P tab (.ops full l :: k) fr H Q → St N w0 M ρ fr H a w → wpList P full R l a w := by
  intro l
  induction l with
  | nil => intro _ ρ fr H a w h hs; rw [arun_ops_nil] at h; exact hK _ _ h _ _ _ hs
  | cons o l ih =>
    intro ho ρ fr H a w h hs
    simp only [opsOk, List.all_cons, Bool.and_eq_true] at ho
    have ih' := ih ho.2
    have step : ∀ v H', astep P tab o.op ((opnds o.op).map (ev fr)) H = some (v, H') → arun P tab (.ops full l :: k) (putA o.dst v fr) H' Q → o.wp P a w (wpList P full R l) R :=
      fun v H' h1 h2 => op_wp ht hs ho.1 h1 fun ρ' a' w' hs' => ih' _ _ _ _ _ h2 hs'
    have skip : arun P tab (.ops full l :: k) (putA o.dst (.c .und) fr) H Q → wpList P full R l (a.put o.dst undef) w := fun h2 => ih' _ _ _ _ _ h2 (hs.put ho.1 rfl)
    rw [arun_op] at h
    unfold wpList
    split at h
    · rename_i hg
      have hw : Region.wanted o (yielded full a.tmps) = true := by simp [Region.wanted, hg]
      rw [if_pos hw]
      split at h
      · rename_i v H' h1; exact .inl (step _ _ h1 h)
      · exact h.elim
    · rename_i j want hg
      split at h
      · rename_i q hq
        have hy := gval_spec hq hs.fr
        have hw : Region.wanted o (yielded full a.tmps) = (q == want) := by simp [Region.wanted, hg, hy]
        split at h
        · rename_i e
          rw [if_pos (by rw [hw]; simp [e])]
          split at h
          · rename_i v H' h1; exact .inl (step _ _ h1 h)
          · exact h.elim
        · rename_i e
          rw [if_neg (by rw [hw]; simp [e])]; exact skip h
      · rename_i hq
        have hy := gval_spec hq hs.fr
        have hw : Region.wanted o (yielded full a.tmps) = false := by simp [Region.wanted, hg, hy]
        rw [if_neg (by rw [hw]; simp)]; exact skip h
      · exact h.elim

theorem okK_cons {drawn : Array Oper → Bool} {x : It} {k : List It} (h : okI N drawn x = true) (hk : okK N drawn k = true) : okK N drawn (x :: k) = true := by
  simp only [okK, List.all_cons, Bool.and_eq_true]; exact ⟨h, hk⟩

theorem sound (ht : TabOk P tab) (drawn : Array Oper → Bool) (hdr : ∀ ops, drawn ops = true → opsOk N ops.toList = true → DrawOk P tab N ops) {Q : Fr → AH → Prop} :
    ∀ (n : Nat) (k : List It), kwt k ≤ n → okK N drawn k = true → ∀ fr H, arun P tab k fr H Q → ∀ ρ a w, St N w0 M ρ fr H a w → Kp P N w0 M Q k .normal a w := by
  intro n
  induction n with
  | zero =>
    intro k hk hok fr H h ρ a w hs
    cases k with
    | nil => rw [arun_nil] at h; exact ⟨ρ, fr, H, hs, h⟩
    | cons x k => exfalso; cases x <;> simp [kwt, It.wt] at hk; rename_i c; cases c <;> simp [cwt] at hk
  | succ n ih =>
    intro k hk hok fr H h ρ a w hs
    cases k with
    | nil => rw [arun_nil] at h; exact ⟨ρ, fr, H, hs, h⟩
    | cons x k =>
      simp only [okK, List.all_cons, Bool.and_eq_true] at hok
      obtain ⟨hx, hok⟩ := hok
      cases x with
      | blk id =>
        rw [arun_blk] at h
        exact ih k (by simp [kwt, It.wt] at hk ⊢; omega) hok fr H h ρ a w hs
      | back I => rw [arun_back] at h; exact ⟨ρ, fr, H, hs, h⟩
      | ops full l =>
        exact ops_sound ht (fun fr' H' h' ρ' a' w' hs' => ih k (by simp [kwt, It.wt] at hk ⊢; omega) hok fr' H' h' ρ' a' w' hs') l hx ρ fr H a w h hs
      | c x =>
        have hkp : ∀ fr' H', arun P tab k fr' H' Q → ∀ ρ' a' w', St N w0 M ρ' fr' H' a' w' → Kp P N w0 M Q k .normal a' w' :=
          fun fr' H' h' ρ' a' w' hs' => ih k (by
            have : 0 < cwt x := by cases x <;> simp [cwt]
            simp [kwt, It.wt] at hk ⊢; omega) hok fr' H' h' ρ' a' w' hs'
        show x.wp P (Kp P N w0 M Q k) a w
        cases x with
        | skip => rw [arun_skip] at h; exact wp_skip (hkp _ _ h _ _ _ hs)
        | region id ops d =>
          rw [arun_region] at h
          simp only [okI, okC, Bool.and_eq_true] at hx
          cases d with
          | false => exact wp_region_list (ops_sound ht hkp ops.toList hx.1 ρ fr H a w h hs)
          | true => exact hdr ops (by simpa using hx.2) hx.1 id w0 M ρ fr H a w k Q _ hs h hkp
        | seq x y =>
          rw [arun_seq] at h
          simp only [okI, okC, Bool.and_eq_true] at hx
          refine wp_seq ?_
          exact ih (.c x :: .c y :: k) (by simp [kwt, It.wt, cwt] at hk ⊢; omega) (okK_cons hx.1 (okK_cons hx.2 hok)) fr H h ρ a w hs
        | cond x y z =>
          rw [arun_cond] at h
          simp only [okI, okC, Bool.and_eq_true] at hx
          split at h
          · rename_i q hq
            have he := ev_rel hs.fr x
            rw [hq] at he
            have he' : a.eval x = .bool q := he
            split at h
            · rename_i e; subst e
              refine wp_cond_true he' ?_
              exact ih (.c y :: k) (by simp [kwt, It.wt, cwt] at hk ⊢; omega) (okK_cons hx.1 hok) fr H h ρ a w hs
            · rename_i e
              refine wp_cond_false (by rw [he']; simpa using e) ?_
              exact ih (.c z :: k) (by simp [kwt, It.wt, cwt] at hk ⊢; omega) (okK_cons hx.2 hok) fr H h ρ a w hs
          · exact h.elim
        | block id y =>
          rw [arun_block] at h
          simp only [okI, okC] at hx
          refine wp_block ?_
          exact ih (.c y :: .blk id :: k) (by simp [kwt, It.wt, cwt] at hk ⊢; omega) (okK_cons hx (okK_cons rfl hok)) fr H h ρ a w hs
        | loop y =>
          rw [arun_loop] at h
          simp only [okI, okC] at hx
          obtain ⟨ι, F, μ, i0, h0, hr⟩ := h
          obtain ⟨ρ1, hs1⟩ := hs.wk h0
          refine wp_loopI (fun n a w => ∃ i ρ, μ i = n ∧ St N w0 M ρ (F i).1 (F i).2 a w) (μ i0) ⟨i0, ρ1, rfl, hs1⟩ ?_
          rintro n' a' w' ⟨i, ρ', rfl, hs'⟩
          have := ih (.c y :: .back (fun fr H => ∃ j, μ j < μ i ∧ Wk fr H (F j)) :: k) (by simp [kwt, It.wt, cwt] at hk ⊢; omega) (okK_cons hx (okK_cons rfl hok)) _ _ (hr i) ρ' a' w' hs'
          refine wp_mono (show y.wp P (Kp P N w0 M Q (.back _ :: k)) a' w' from this) ?_
          intro e a2 w2 hq
          cases e with
          | normal =>
            obtain ⟨ρ2, fr2, H2, hs2, j, hj, hwk⟩ := hq
            obtain ⟨ρ3, hs3⟩ := hs2.wk hwk
            exact ⟨μ j, hj, j, ρ3, rfl, hs3⟩
          | _ => exact hq
        | exit id =>
          rw [arun_exit] at h
          split at h
          · rename_i k' hp
            refine wp_exit (Kp_exit k k' hp ?_)
            have hk' : okK N drawn k' = true := by
              have : ∀ (k k' : List It), popB id k = some k' → (k.all (okI N drawn)) = true → okK N drawn k' = true := by
                intro k
                induction k with
                | nil => intro k' h; simp [popB] at h
                | cons x k ihk =>
                  intro k' h hok
                  simp only [List.all_cons, Bool.and_eq_true] at hok
                  cases x with
                  | blk i =>
                    simp only [popB] at h
                    split at h
                    · simp at h; subst h; exact hok.2
                    · exact ihk _ h hok.2
                  | _ => exact ihk _ h hok.2
              exact this k k' hp hok
            have := popB_wt hp
            exact ih k' (by simp [kwt, It.wt, cwt] at hk this ⊢; omega) hk' fr H h ρ a w hs
          · exact h.elim
        | ret => rw [arun_ret] at h; exact wp_ret (Kp_ret ⟨ρ, fr, H, hs, h⟩ k)
        | _ => rw [arun] at h <;> first | exact h.elim | simp

end Go.Am

/- Contracts out of runs. -/
namespace Go.Am
variable {P : Program} {tab : Tab}

def Sc.pf : Sc → Bool
  | .p _ _ _ | .sl _ _ _ _ => false
  | .f _ cs => cs.isEmpty
  | _ => true
/-- a value without addresses -/
def AV.pf : AV → Bool
  | .c s => s.pf
  | .g l => l.all Sc.pf
  | .t l => l.all fun x => match x with | .c s => s.pf | .g l => l.all Sc.pf | .t _ => false

theorem SRel.pf {ρ ρ' : Ro} {s : Sc} {v : Value} (h : SRel ρ s v) (hp : s.pf = true) : SRel ρ' s v := by
  cases s <;> simp [Sc.pf] at hp <;> try exact h
  subst hp
  obtain ⟨cv, h1, h2⟩ := h
  cases h2
  exact ⟨[], h1, .nil⟩
theorem L2.pf {ρ ρ' : Ro} {l : List Sc} {c : List Value} (h : L2 (SRel ρ) l c) (hp : l.all Sc.pf = true) : L2 (SRel ρ') l c := by
  induction h with
  | nil => exact .nil
  | cons h _ ih => simp only [List.all_cons, Bool.and_eq_true] at hp; exact .cons (h.pf hp.1) (ih hp.2)
theorem VRel.pf {ρ ρ' : Ro} {x : AV} {v : Value} (h : VRel ρ x v) (hp : x.pf = true) : VRel ρ' x v := by
  cases x with
  | c s => exact SRel.pf h hp
  | g l => obtain ⟨cs, h1, h2⟩ := h; exact ⟨cs, h1, h2.pf hp⟩
  | t l =>
    obtain ⟨vs, h1, h2⟩ := h
    refine ⟨vs, h1, ?_⟩
    simp only [AV.pf] at hp
    clear h1
    induction h2 with
    | nil => exact .nil
    | @cons a b l m h _ ih =>
      simp only [List.all_cons, Bool.and_eq_true] at hp
      refine .cons ?_ (ih hp.2)
      cases a with
      | c s => exact SRel.pf h hp.1
      | g l => obtain ⟨cs, h1, h2⟩ := h; exact ⟨cs, h1, h2.pf hp.1⟩
      | t l => exact h.elim

def frA : Nat → List AV → Fr
  | _, [] => []
  | n, v :: r => (n, v) :: frA (n + 1) r
theorem get_frA {ρ : Ro} : ∀ (args : List AV) (cs : List Value), L2 (VRel ρ) args cs → ∀ n s, VRel ρ (get (frA n args) s) (if n ≤ s then cs.getD (s - n) undef else undef) := by
  intro args cs h
  induction h with
  | nil => intro n s; trivial
  | @cons x c args cs h _ ih =>
    intro n s
    simp only [frA, get]
    split
    · subst_vars; simpa using h
    · rename_i hne
      have := ih (n + 1) s
      by_cases hle : n ≤ s
      · rw [if_pos hle]
        rw [if_pos (by omega)] at this
        obtain ⟨d, hd⟩ : ∃ d, s - n = d + 1 := ⟨s - n - 1, by omega⟩
        rw [hd, List.getD_cons_succ, show d = s - (n + 1) by omega]; exact this
      · rw [if_neg hle]
        rw [if_neg (by omega)] at this; exact this

/-- what a pointer leads to -/
def ldA (P : Program) (t : Nat) (H : AH) (x : AV) : Option AV :=
  match x with
  | .c (.p id off ver) => if ver = (hg H id).row ∧ off + szT P t ≤ (hg H id).cells.length ∧ 0 < szT P t ∧ (dT P t).is ∧ ((dT P t).agg = false → szT P t = 1) then some (rd (dT P t).agg (hg H id).cells off (szT P t)) else none
  | _ => none
def res1 (P : Program) (fr : Fr) (H : AH) : ResultVar → Option AV
  | .tmp t => some (get fr t)
  | .cell a t => ldA P t H (get fr a)
def AV.flat : AV → Bool
  | .t _ => false
  | _ => true
def resL (P : Program) (fr : Fr) (H : AH) : List ResultVar → Option (List AV)
  | [] => some []
  | r :: rs =>
    match res1 P fr H r, resL P fr H rs with
    | some v, some l => if v.flat = true then some (v :: l) else none
    | _, _ => none
def resA (P : Program) (fr : Fr) (H : AH) (rs : List ResultVar) : Option AV :=
  match rs with
  | [r] => res1 P fr H r
  | rs => (resL P fr H rs).map .t

theorem ldA_run {ρ : Ro} {w : World} {H : AH} {t : Nat} {x v : AV} {cx : Value} (h : ldA P t H x = some v) (hx : VRel ρ x cx) (hO : ∀ i, ORel ρ w i (hg H i)) :
    ∃ ad vc, cx = .pointer (some ad) ∧ (loadVar t ad).run P w = .ok vc w ∧ VRel ρ v vc := by
  unfold ldA at h
  split at h
  · rename_i id off ver
    split at h <;> simp at h
    rename_i hc
    subst h
    obtain ⟨L, ad, h2, h3, h4, h5⟩ := (show PRel ρ id off ver _ from hx)
    have hlive : (hg H id).live = true := by
      cases hh : hg H id with
      | dead => rw [hh] at hc; simp [AObj.cells] at hc; omega
      | _ => rfl
    have hrow := (hO id).row h2 hlive
    obtain ⟨_, _, rfl⟩ := h5 (by rw [hrow]; exact hc.1)
    obtain ⟨vc, h6, h7⟩ := load_run (hO id) h2 hc.2.1 hc.2.2.1 hc.2.2.2.1 hc.2.2.2.2
    exact ⟨_, vc, h3, h6, h7⟩
  · simp at h

/-- the model's reading of a result -/
def resS (tmps : Array Value) (r : ResultVar) : Sem Value :=
  match r with
  | .tmp t => pure (tmps.getD t undef)
  | .cell a t => do loadVar t (← asAddr (tmps.getD a undef))
theorem results_eq (fn : Func) (tmps : Array Value) : results fn tmps = (do let vs ← List.toArray <$> fn.results.toList.mapM (resS tmps); pure (if h : vs.size = 1 then vs[0] else .tuple vs)) := by
  unfold results
  rw [Array.mapM_eq_mapM_toList]
  rfl

theorem res1_run {ρ : Ro} {w : World} {H : AH} {fr : Fr} {tmps : Array Value} {r : ResultVar} {v : AV} (h : res1 P fr H r = some v) (hf : ∀ s, VRel ρ (get fr s) (tmps.getD s undef)) (hO : ∀ i, ORel ρ w i (hg H i)) :
    ∃ vc, (resS tmps r).run P w = .ok vc w ∧ VRel ρ v vc := by
  cases r with
  | tmp t => simp [res1] at h; subst h; exact ⟨_, rfl, hf t⟩
  | cell a t =>
    obtain ⟨ad, vc, h1, h2, h3⟩ := ldA_run (P := P) (show ldA P t H (get fr a) = some v from h) (hf a) hO
    exact ⟨vc, by simp [resS, h1, asAddr, h2], h3⟩

theorem resA_run {ρ : Ro} {w : World} {H : AH} {fr : Fr} {tmps : Array Value} {fn : Func} {v : AV} (h : resA P fr H fn.results.toList = some v) (hf : ∀ s, VRel ρ (get fr s) (tmps.getD s undef)) (hO : ∀ i, ORel ρ w i (hg H i)) :
    ∃ vc, (results fn tmps).run P w = .ok vc w ∧ VRel ρ v vc := by
  have key : ∀ (rs : List ResultVar) (l : List AV), resL P fr H rs = some l → ∃ vs : List Value, (rs.mapM (resS tmps)).run P w = .ok vs w ∧ L2 (V1 ρ) l vs ∧ vs.length = rs.length := by
    intro rs
    induction rs with
    | nil => intro l h; simp [resL] at h; subst h; exact ⟨[], by simp, .nil, rfl⟩
    | cons r rs ih =>
      intro l h
      simp only [resL] at h
      split at h
      · rename_i v' l' h1 h2
        split at h <;> simp at h
        rename_i hfl
        subst h
        obtain ⟨vc, h3, h4⟩ := res1_run (P := P) h1 hf hO
        obtain ⟨vs, h5, h6, h7⟩ := ih _ h2
        refine ⟨vc :: vs, ?_, .cons ?_ h6, by simp [h7]⟩
        · simp only [List.mapM_cons, Sem.run_bind, h3, Result.andThen_ok, h5, Sem.run_pure]
        · cases v' <;> first | exact h4 | simp [AV.flat] at hfl
      · simp at h
  rw [results_eq]
  unfold resA at h
  split at h
  · rename_i r hr
    obtain ⟨vc, h1, h2⟩ := res1_run (P := P) h hf hO
    refine ⟨vc, ?_, h2⟩
    rw [hr]
    simp only [List.mapM_cons, List.mapM_nil, Sem.run_bind, Sem.run_map, h1, Result.andThen_ok, Sem.run_pure]
    rfl
  · rename_i rs hne
    simp only [Option.map_eq_some_iff] at h
    obtain ⟨l, h1, rfl⟩ := h
    obtain ⟨vs, h2, h3, h4⟩ := key _ _ h1
    refine ⟨.tuple vs.toArray, ?_, vs, rfl, h3⟩
    simp only [Sem.run_bind, Sem.run_map, h2, Result.andThen_ok, Sem.run_pure]
    have : ¬ vs.toArray.size = 1 := by
      intro e
      have : fn.results.toList.length = 1 := by rw [← h4]; simpa using e
      match hh : fn.results.toList, this with
      | [r], _ => exact hne r hh
    rw [dif_neg this]

theorem HR.nil (w : World) : HR ρ0 w [] :=
  ⟨fun i => by rw [hg_ge _ (Nat.zero_le _)]; trivial, fun i j Li Lj _ h => by rw [hg_ge _ (Nat.zero_le _)] at h; simp [AObj.owned] at h, fun _ _ => rfl⟩

theorem Keep.refl (w : World) (M : Nat → Prop) (h : ∀ b c t f, w.heap[b]? = some (.cells c t f) → M b → f = (0, 0)) : Keep w M w :=
  ⟨rfl, rfl, rfl, Nat.le_refl _, fun _ _ _ => rfl, fun b c t f hf hm => by
    rcases hm with hm | hm
    · rw [Array.getElem?_eq_none hm] at hf; simp at hf
    · exact h b c t f hf hm⟩

/-- A function of values alone: its contract out of its run. -/
theorem pu_of_arun {f : Nat} {fn : Func} {code : Code} {rs : List ResultVar} {n : Nat} {s : List AV → Option AV} (drawn : Array Oper → Bool) (hf : P.funcs[f]? = some fn) (hb : fn.body = some code) (hrs : fn.results = rs.toArray) (hn : fn.ntmps = n) (hname : (fn.name == "runtime.NumGoroutine") = false)
    (ht : TabOk P tab) (hdr : ∀ ops, drawn ops = true → opsOk n ops.toList = true → DrawOk P tab n ops) (hok : okC n drawn code = true)
    (h : ∀ args v, s args = some v → args.length ≤ n ∧ args.all AV.pf = true ∧ v.pf = true ∧ arun P tab [.c code] (frA 0 args) [] (fun fr H => resA P fr H rs = some v)) : PuOk P f s := by
  obtain rfl : fn.results.toList = rs := by rw [hrs]
  subst hn
  refine ⟨fun args w => ?_, fun args v hs ρ w cs hcs => ?_⟩
  · have hn : ¬ fn.name = "runtime.NumGoroutine" := by simpa using hname
    simp [callFunc, hf, hn, hb]
  · obtain ⟨h1, h2, h3, h4⟩ := h args v hs
    have hrel : L2 (VRel ρ0) args cs := by
      clear h1 h4 hs
      induction hcs with
      | nil => exact .nil
      | cons h _ ih => simp only [List.all_cons, Bool.and_eq_true] at h2; exact .cons (h.pf h2.1) (ih h2.2)
    have hlen := hcs.length
    refine calls_of_wp hf hb ?_
    have hst : St fn.ntmps w (fun _ => False) ρ0 (frA 0 args) [] { tmps := cs.toArray ++ Array.replicate (fn.ntmps - cs.toArray.size) undef, defers := [] } w := by
      refine ⟨fun x => ?_, by simp; omega, rfl, HR.nil w, Keep.refl w _ (fun _ _ _ _ _ h => h.elim), fun i L h => by rw [hg_ge _ (Nat.zero_le _)] at h; simp [AObj.owned] at h⟩
      have := get_frA args cs hrel 0 x
      rw [if_pos (Nat.zero_le _), Nat.sub_zero] at this
      have e : (cs.toArray ++ Array.replicate (fn.ntmps - cs.toArray.size) undef).getD x undef = cs.getD x undef := by
        rw [Array.getD_eq_getD_getElem?, List.getD_eq_getElem?_getD, Array.getElem?_append]
        split
        · simp
        · rename_i hx
          simp at hx
          rw [List.getElem?_eq_none hx, Array.getElem?_replicate]
          split <;> rfl
      rw [e]; exact this
    have hkp := sound ht drawn hdr (kwt [.c code]) [.c code] (Nat.le_refl _) (by simp [okK, okI, hok]) _ _ h4 _ _ _ hst
    refine wp_mono (show code.wp P (Kp P fn.ntmps w (fun _ => False) _ []) _ w from hkp) ?_
    intro e a2 w2 hq
    have fin : SI fn.ntmps w (fun _ => False) (fun fr H => resA P fr H fn.results.toList = some v) a2 w2 → a2.defers = [] ∧ ∃ v', (results fn a2.tmps).run P w2 = .ok v' w2 ∧ ∃ vc, Ending.returned v' = .returned vc ∧ (∀ ρ', VRel ρ' v vc) ∧ Keep w (fun _ => False) w2 := by
      rintro ⟨ρ2, fr2, H2, hs2, hres⟩
      obtain ⟨vc, h5, h6⟩ := resA_run (P := P) hres hs2.fr hs2.hr.obj
      exact ⟨hs2.df, vc, h5, vc, rfl, fun ρ' => h6.pf h3, hs2.kp⟩
    cases e <;> first | exact fin hq | exact hq.elim

end Go.Am

/- Rules by which 'simp only' runs a text. -/
namespace Go.Am
variable {P : Program} {tab : Tab} {full : Array Oper} {os : List Oper} {k : List It} {fr : Fr} {H : AH} {Q : Fr → AH → Prop}

/-- what comes behind an operation -/
def nxt (P : Program) (tab : Tab) (full : Array Oper) (os : List Oper) (k : List It) (Q : Fr → AH → Prop) (d : Option Nat) (fr : Fr) (r : Option (AV × AH)) : Prop :=
  match r with
  | some (v, H') => arun P tab (.ops full os :: k) (putA d v fr) H' Q
  | none => False
theorem nxt_some {d : Option Nat} {v : AV} {H' : AH} : nxt P tab full os k Q d fr (some (v, H')) = arun P tab (.ops full os :: k) (putA d v fr) H' Q := rfl
theorem putA_some {d : Nat} {v : AV} : putA (some d) v fr = (d, v) :: fr := rfl
theorem putA_none {v : AV} : putA none v fr = fr := rfl

/-- an operation without a guard -/
theorem st_go {d : Option Nat} {op : Op} {ty : Nat} {pos : String} {af : Array Edge} :
    arun P tab (.ops full (⟨d, op, ty, pos, af, none⟩ :: os) :: k) fr H Q = nxt P tab full os k Q d fr (astep P tab op ((opnds op).map (ev fr)) H) := by rw [arun_op]; rfl
/-- an operation with a guard -/
def grd (P : Program) (tab : Tab) (full : Array Oper) (os : List Oper) (k : List It) (Q : Fr → AH → Prop) (d : Option Nat) (op : Op) (want : Bool) (fr : Fr) (H : AH) (g : AV) : Prop :=
  match g with
  | .c (.b q) => if q = want then nxt P tab full os k Q d fr (astep P tab op ((opnds op).map (ev fr)) H) else arun P tab (.ops full os :: k) (putA d (.c .und) fr) H Q
  | .c .und => arun P tab (.ops full os :: k) (putA d (.c .und) fr) H Q
  | _ => False
theorem grd_b {d : Option Nat} {op : Op} {want q : Bool} : grd P tab full os k Q d op want fr H (.c (.b q)) = if q = want then nxt P tab full os k Q d fr (astep P tab op ((opnds op).map (ev fr)) H) else arun P tab (.ops full os :: k) (putA d (.c .und) fr) H Q := rfl
theorem grd_und {d : Option Nat} {op : Op} {want : Bool} : grd P tab full os k Q d op want fr H (.c .und) = arun P tab (.ops full os :: k) (putA d (.c .und) fr) H Q := rfl
/-- the slot of a region's operation -/
def dstA (full : Array Oper) (j : Nat) : Option Nat := (full[j]?).bind (·.dst)
def gslot (full : Array Oper) (fr : Fr) (j : Nat) : AV :=
  match dstA full j with
  | some e => Am.get fr e
  | none => .c .und
theorem st_gd {d : Option Nat} {op : Op} {ty j : Nat} {want : Bool} {pos : String} {af : Array Edge} :
    arun P tab (.ops full (⟨d, op, ty, pos, af, some (j, want)⟩ :: os) :: k) fr H Q = grd P tab full os k Q d op want fr H (gslot full fr j) := by
  rw [arun_op]
  simp only [gval, gslot, dstA]
  cases (full[j]?).bind (·.dst) with
  | none => rfl
  | some e =>
    simp only
    cases Am.get fr e with
    | c s => cases s <;> rfl
    | g l => rfl
    | t l => rfl

/-- the text and what comes behind it are no matter of simp's -/
@[congr] theorem arun_cg {fr' : Fr} {H' : AH} (h1 : fr = fr') (h2 : H = H') : arun P tab k fr H Q = arun P tab k fr' H' Q := by rw [h1, h2]
@[congr] theorem nxt_cg {d : Option Nat} {r r' : Option (AV × AH)} (h1 : r = r') : nxt P tab full os k Q d fr r = nxt P tab full os k Q d fr r' := by rw [h1]
@[congr] theorem grd_cg {d : Option Nat} {op : Op} {want : Bool} {g g' : AV} (h1 : g = g') : grd P tab full os k Q d op want fr H g = grd P tab full os k Q d op want fr H g' := by rw [h1]
theorem nxt_put {d : Nat} {v : AV} {H' : AH} : nxt P tab full os k Q (some d) fr (some (v, H')) = arun P tab (.ops full os :: k) ((d, v) :: fr) H' Q := rfl
theorem nxt_non {v : AV} {H' : AH} : nxt P tab full os k Q none fr (some (v, H')) = arun P tab (.ops full os :: k) fr H' Q := rfl
theorem arun_rgn {id : Nat} {l : List Oper} {d : Bool} : arun P tab (.c (.region id l.toArray d) :: k) fr H Q = arun P tab (.ops l.toArray l :: k) fr H Q := by rw [arun_region]

theorem grd_tt {d : Option Nat} {op : Op} : grd P tab full os k Q d op true fr H (.c (.b true)) = nxt P tab full os k Q d fr (astep P tab op ((opnds op).map (ev fr)) H) := rfl
theorem grd_ff {d : Option Nat} {op : Op} : grd P tab full os k Q d op false fr H (.c (.b false)) = nxt P tab full os k Q d fr (astep P tab op ((opnds op).map (ev fr)) H) := rfl
theorem grd_tf {d : Nat} {op : Op} : grd P tab full os k Q (some d) op true fr H (.c (.b false)) = arun P tab (.ops full os :: k) ((d, .c .und) :: fr) H Q := rfl
theorem grd_ft {d : Nat} {op : Op} : grd P tab full os k Q (some d) op false fr H (.c (.b true)) = arun P tab (.ops full os :: k) ((d, .c .und) :: fr) H Q := rfl
theorem grd_u {d : Nat} {op : Op} {want : Bool} : grd P tab full os k Q (some d) op want fr H (.c .und) = arun P tab (.ops full os :: k) ((d, .c .und) :: fr) H Q := rfl
theorem grd_ntf {op : Op} : grd P tab full os k Q none op true fr H (.c (.b false)) = arun P tab (.ops full os :: k) fr H Q := rfl
theorem grd_nft {op : Op} : grd P tab full os k Q none op false fr H (.c (.b true)) = arun P tab (.ops full os :: k) fr H Q := rfl
theorem grd_nu {op : Op} {want : Bool} : grd P tab full os k Q none op want fr H (.c .und) = arun P tab (.ops full os :: k) fr H Q := rfl
def cnd (P : Program) (tab : Tab) (a b : Code) (k : List It) (Q : Fr → AH → Prop) (fr : Fr) (H : AH) (v : AV) : Prop :=
  match v with
  | .c (.b true) => arun P tab (.c a :: k) fr H Q
  | .c (.b false) => arun P tab (.c b :: k) fr H Q
  | _ => False
@[congr] theorem cnd_cg {a b : Code} {v v' : AV} (h : v = v') : cnd P tab a b k Q fr H v = cnd P tab a b k Q fr H v' := by rw [h]
theorem cnd_tt {a b : Code} : cnd P tab a b k Q fr H (.c (.b true)) = arun P tab (.c a :: k) fr H Q := rfl
theorem cnd_ff {a b : Code} : cnd P tab a b k Q fr H (.c (.b false)) = arun P tab (.c b :: k) fr H Q := rfl
theorem arun_cnd {x : Operand} {a b : Code} : arun P tab (.c (.cond x a b) :: k) fr H Q = cnd P tab a b k Q fr H (ev fr x) := by
  rw [arun_cond]
  generalize ev fr x = v
  cases v with
  | c s => cases s <;> first | rfl | (rename_i q; cases q <;> rfl)
  | g l => rfl
  | t l => rfl

/-! ### operands -/
theorem ev_tmp {t : Nat} : ev fr (.tmp t) = Am.get fr t := rfl
theorem ev_func {f : Nat} : ev fr (.func f) = .c (.f f []) := rfl
theorem ev_i {n : Int} (h : -9223372036854775808 ≤ n ∧ n ≤ 9223372036854775807) : ev fr (.const (.int .i64 n)) = .c (.i n) := by simp only [ev, absC, absS, h, and_self, if_true]
theorem ev_u {n : Int} (h : 0 ≤ n ∧ n ≤ 18446744073709551615) : ev fr (.const (.int .u64 n)) = .c (.u (BitVec.ofInt 64 n)) := by simp only [ev, absC, absS, h, and_self, if_true]
theorem ev_b {q : Bool} : ev fr (.const (.bool q)) = .c (.b q) := rfl
theorem ev_nils : ev fr (.const (.slice none 0 0)) = .c .nils := rfl
theorem ev_nilp : ev fr (.const (.pointer none)) = .c .nilp := rfl
theorem ev_nilf : ev fr (.const .nilFunc) = .c .nilf := rfl
theorem get_same {d : Nat} {v : AV} : Am.get ((d, v) :: fr) d = v := by simp [Am.get]
theorem get_ne {d s : Nat} {v : AV} (h : (d == s) = false) : Am.get ((d, v) :: fr) s = Am.get fr s := by simp at h; simp [Am.get, h]

/-! ### single operations -/
section
variable {x y z : Operand} {a b c : AV} {t : Nat}
theorem op_move : opnds (.move x) = [x] := rfl
theorem op_assign : opnds (.assign x) = [x] := rfl
theorem op_box : opnds (.box t x) = [x] := rfl
theorem op_load : opnds (.load t x) = [x] := rfl
theorem op_nilCheck : opnds (.nilCheck x) = [x] := rfl
theorem op_unOp {o : UnOp} : opnds (.unOp o t x) = [x] := rfl
theorem op_convert {s : Nat} : opnds (.convert s t x) = [x] := rfl
theorem op_fieldAddr {n : Nat} : opnds (.fieldAddr t x n) = [x] := rfl
theorem op_field {n : Nat} : opnds (.field t x n) = [x] := rfl
theorem op_extract {n : Nat} : opnds (.extract x n) = [x] := rfl
theorem op_pick : opnds (.pick x y z) = [x, y, z] := rfl
theorem op_build {l : List (Nat × Operand)} : opnds (.build t l.toArray) = l.map (·.2) := rfl
theorem op_buildSlice {n : Nat} {l : List (Nat × Operand)} : opnds (.buildSlice t n l.toArray) = l.map (·.2) := rfl
theorem op_store : opnds (.store t x y) = [x, y] := rfl
theorem op_binOp {o : BinOp} {s : Nat} : opnds (.binOp o t x y s) = [x, y] := rfl
theorem op_makeSlice : opnds (.makeSlice t x y) = [x, y] := rfl
theorem op_indexAddr : opnds (.indexAddr t x y) = [x, y] := rfl
theorem op_index : opnds (.index t x y) = [x, y] := rfl
theorem op_makeFunc {f : Fn} {l m : List Operand} : opnds (.makeFunc f l.toArray m.toArray) = m := rfl
theorem op_slice {lo hi mx : Option Operand} : opnds (.slice t x lo hi mx) = x :: (lo.toList ++ hi.toList) := rfl
theorem op_call {l : List Operand} {ts : Array Nat} : opnds (.call ⟨.value x, l.toArray, ts⟩) = x :: l := rfl
theorem op_builtin {bi : Builtin} {l : List Operand} {ts : Array Nat} : opnds (.call ⟨.builtin bi, l.toArray, ts⟩) = l := rfl
theorem op_alloc : opnds (.alloc t) = [] := rfl

theorem as_move : astep P tab (.move x) [a] H = some (a, H) := rfl
theorem as_assign : astep P tab (.assign x) [a] H = some (a, H) := rfl
theorem as_pick {q : Bool} : astep P tab (.pick x y z) [.c (.b q), a, b] H = some (if q = true then a else b, H) := by cases q <;> rfl
theorem as_build {l : List (Nat × Operand)} {vs : List AV} : astep P tab (.build t l.toArray) vs H = (buildA P t ((l.map (·.1)).zip vs)).map fun v => (v, H) := by
  show (match qop P (.build t l.toArray) vs _ with | some v => some (v, H) | none => eop P _ _ _) = _
  simp only [qop]
  cases buildA P t ((l.map (·.1)).zip vs) <;> rfl
theorem as_load {id off ver : Nat} : astep P tab (.load t x) [.c (.p id off ver)] H = (ldA P t H (.c (.p id off ver))).map fun v => (v, H) := by
  show (match qop P (.load t x) [.c (.p id off ver)] [hg H id] with | some v => some (v, H) | none => eop P _ _ _) = _
  have e : qop P (.load t x) [.c (.p id off ver)] [hg H id] = ldA P t H (.c (.p id off ver)) := rfl
  simp only [e]
  cases ldA P t H (.c (.p id off ver)) <;> rfl
theorem as_nilCheck {id off ver : Nat} : astep P tab (.nilCheck x) [.c (.p id off ver)] H = some (.c (.p id off ver), H) := rfl
theorem as_nilCheckf {f : Nat} {cs : List (Nat × Nat × Nat)} : astep P tab (.nilCheck x) [.c (.f f cs)] H = some (.c (.f f cs), H) := rfl
theorem as_bin {o : BinOp} {s : Nat} : astep P tab (.binOp o t x y s) [a, b] H = (abin P o t a b).map fun v => (v, H) := by
  show (match qop P (.binOp o t x y s) [a, b] _ with | some v => some (v, H) | none => eop P _ _ _) = _
  simp only [qop]
  cases abin P o t a b <;> rfl
theorem as_un {o : UnOp} : astep P tab (.unOp o t x) [a] H = (aun o a).map fun v => (v, H) := by
  show (match qop P (.unOp o t x) [a] _ with | some v => some (v, H) | none => eop P _ _ _) = _
  simp only [qop]
  cases aun o a <;> rfl
theorem as_convert {s : Nat} : astep P tab (.convert s t x) [a] H = (if (dT P s).is = true then acv P t a else none).map fun v => (v, H) := by
  show (match qop P (.convert s t x) [a] ((touch (.convert s t x) [a]).map (hg H)) with | some v => some (v, H) | none => eop P _ _ _) = _
  have e : qop P (.convert s t x) [a] ((touch (.convert s t x) [a]).map (hg H)) = if (dT P s).is = true then acv P t a else none := rfl
  simp only [e]
  cases (if (dT P s).is = true then acv P t a else none) <;> rfl
theorem as_makeFunc {f : Nat} {m : List Operand} {vs : List AV} : astep P tab (.makeFunc (.func f) #[] m.toArray) vs H = (caps vs).map fun l => (.c (.f f l), H) := by
  show (match qop P (.makeFunc (.func f) #[] m.toArray) vs _ with | some v => some (v, H) | none => eop P _ _ _) = _
  simp only [qop, List.size_toArray, List.length_nil, if_true]
  cases caps vs <;> rfl
def fldA (P : Program) (d : D) (n id off ver : Nat) : Option AV :=
  match d with
  | .st fs => match fs[n]? with
    | some f => if 0 < szT P f.2 then some (.c (.p id (off + f.1) ver)) else none
    | none => none
  | _ => none
theorem as_fieldAddr {n id off ver : Nat} : astep P tab (.fieldAddr t x n) [.c (.p id off ver)] H = (fldA P (dT P t) n id off ver).map fun v => (v, H) := by
  show (match qop P (.fieldAddr t x n) [.c (.p id off ver)] _ with | some v => some (v, H) | none => eop P _ _ _) = _
  have e : qop P (.fieldAddr t x n) [.c (.p id off ver)] ((touch (.fieldAddr t x n) [.c (.p id off ver)]).map (hg H)) = fldA P (dT P t) n id off ver := rfl
  simp only [e]
  cases fldA P (dT P t) n id off ver <;> rfl
def fldV (P : Program) (d : D) (n : Nat) (l : List Sc) : Option AV :=
  match d with
  | .st fs => match fs[n]? with
    | some f => if 0 < szT P f.2 ∧ (dT P f.2).is = true ∧ f.1 + szT P f.2 ≤ l.length then some (rd (dT P f.2).agg l f.1 (szT P f.2)) else none
    | none => none
  | _ => none
theorem as_field {n : Nat} {l : List Sc} : astep P tab (.field t x n) [.g l] H = (fldV P (dT P t) n l).map fun v => (v, H) := by
  show (match qop P (.field t x n) [.g l] _ with | some v => some (v, H) | none => eop P _ _ _) = _
  have e : qop P (.field t x n) [.g l] ((touch (.field t x n) [.g l]).map (hg H)) = fldV P (dT P t) n l := rfl
  simp only [e]
  cases fldV P (dT P t) n l <;> rfl
theorem as_indexAddr : astep P tab (.indexAddr t x y) [a, b] H = (indexAddrA P t a b).map fun v => (v, H) := by
  show (match qop P (.indexAddr t x y) [a, b] _ with | some v => some (v, H) | none => eop P _ _ _) = _
  simp only [qop]
  cases indexAddrA P t a b <;> rfl
theorem as_index : astep P tab (.index t x y) [a, b] H = (indexA P t a b).map fun v => (v, H) := by
  show (match qop P (.index t x y) [a, b] _ with | some v => some (v, H) | none => eop P _ _ _) = _
  simp only [qop]
  cases indexA P t a b <;> rfl
theorem as_slice00 : astep P tab (.slice t x none none none) [a] H = (sliceA P t a none none).map fun v => (v, H) := by
  show (match qop P (.slice t x none none none) [a] _ with | some v => some (v, H) | none => eop P _ _ _) = _
  simp only [qop]
  cases sliceA P t a none none <;> rfl
theorem as_slice10 : astep P tab (.slice t x (some y) none none) [a, b] H = (sliceA P t a (some b) none).map fun v => (v, H) := by
  show (match qop P (.slice t x (some y) none none) [a, b] _ with | some v => some (v, H) | none => eop P _ _ _) = _
  simp only [qop]
  cases sliceA P t a (some b) none <;> rfl
theorem as_slice01 : astep P tab (.slice t x none (some y) none) [a, b] H = (sliceA P t a none (some b)).map fun v => (v, H) := by
  show (match qop P (.slice t x none (some y) none) [a, b] _ with | some v => some (v, H) | none => eop P _ _ _) = _
  simp only [qop]
  cases sliceA P t a none (some b) <;> rfl
theorem as_slice11 : astep P tab (.slice t x (some y) (some z) none) [a, b, c] H = (sliceA P t a (some b) (some c)).map fun v => (v, H) := by
  show (match qop P (.slice t x (some y) (some z) none) [a, b, c] _ with | some v => some (v, H) | none => eop P _ _ _) = _
  simp only [qop]
  cases sliceA P t a (some b) (some c) <;> rfl
theorem as_extract {n : Nat} {l : List AV} : astep P tab (.extract x n) [.t l] H = (l[n]?).map fun v => (v, H) := by
  show (match qop P (.extract x n) [.t l] _ with | some v => some (v, H) | none => eop P _ _ _) = _
  simp only [qop]
  cases l[n]? <;> rfl
theorem as_len {l : Array Operand} {ts : List Nat} : astep P tab (.call ⟨.builtin .len, l, (t :: ts).toArray⟩) [a] H = (lenA P t a).map fun v => (v, H) := by
  show (match qop P (.call ⟨.builtin .len, l, (t :: ts).toArray⟩) [a] _ with | some v => some (v, H) | none => eop P _ _ _) = _
  simp only [qop, List.getElem?_toArray, List.getElem?_cons_zero]
  cases lenA P t a <;> rfl
theorem as_min {l : Array Operand} {ts : Array Nat} {m n : Int} : astep P tab (.call ⟨.builtin .min, l, ts⟩) [.c (.i m), .c (.i n)] H = some (.c (.i (min m n)), H) := rfl
theorem as_max {l : Array Operand} {ts : Array Nat} {m n : Int} : astep P tab (.call ⟨.builtin .max, l, ts⟩) [.c (.i m), .c (.i n)] H = some (.c (.i (max m n)), H) := rfl
theorem as_append {l : Array Operand} {ts : Array Nat} {vs : List AV} : astep P tab (.call ⟨.builtin .append, l, ts⟩) vs H = appA P ts vs H := rfl
theorem as_call {l : Array Operand} {ts : Array Nat} {f : Nat} {cs : List (Nat × Nat × Nat)} {vs : List AV} : astep P tab (.call ⟨.value x, l, ts⟩) (.c (.f f cs) :: vs) H = callA tab f (vs ++ cs.map capV) H := rfl
def allocA (z : Option (List Sc)) (H : AH) : Option (AV × AH) :=
  match z with
  | some z => some (.c (.p H.length 0 0), H ++ [.own z])
  | none => none
theorem as_alloc : astep P tab (.alloc t) [] H = allocA (zT P t) H := rfl
theorem as_box : astep P tab (.box t x) [a] H = allocA a.cells H := rfl
theorem allocA_some {z : List Sc} : allocA (some z) H = some (.c (.p H.length 0 0), H ++ [.own z]) := rfl
def storeA (P : Program) (t id off ver : Nat) (o : AObj) (l : Option (List Sc)) (H : AH) : Option (AV × AH) :=
  match l with
  | some l => if o.owned = true ∧ ver = o.row ∧ l.length = szT P t ∧ 0 < szT P t ∧ off + l.length ≤ o.cells.length ∧ l.all Sc.one = true then some (.c .und, H.set id (o.put (wr o.cells off l))) else none
  | none => none
theorem as_store {id off ver : Nat} : astep P tab (.store t x y) [.c (.p id off ver), a] H = storeA P t id off ver (hg H id) a.cells H := rfl
def bsA (P : Program) (t len : Nat) (is : List Nat) (m : Nat) (vs : List AV) (H : AH) : Option (AV × AH) :=
  match dT P t with
  | .sl e =>
    match zT P e with
    | some z =>
      if 0 < szT P e ∧ 0 < len ∧ len * szT P e ≤ 16777216 ∧ z.length = szT P e then
        match fillA (fun i => some (i * szT P e, szT P e)) (List.replicate len z).flatten (is.zip vs) with
        | some cs => some (.c (.sl H.length 0 cs.length len), H ++ [.vec (szT P e) cs])
        | none => none
      else if 0 < szT P e ∧ len = 0 ∧ m = 0 then some (.c (.sl H.length 0 0 0), H ++ [.vec (szT P e) []])
      else none
    | none => none
  | _ => none
theorem as_buildSlice {n : Nat} {l : List (Nat × Operand)} {vs : List AV} : astep P tab (.buildSlice t n l.toArray) vs H = bsA P t n (l.toArray.toList.map (·.1)) l.toArray.size vs H := by
  have e : astep P tab (.buildSlice t n l.toArray) vs H = (match qop P (.buildSlice t n l.toArray) vs ((touch (.buildSlice t n l.toArray) vs).map (hg H)) with | some v => some (v, H) | none => eop P (.buildSlice t n l.toArray) vs H) := by
    cases vs <;> rfl
  rw [e]
  have : qop P (.buildSlice t n l.toArray) vs ((touch (.buildSlice t n l.toArray) vs).map (hg H)) = none := by
    cases vs with
    | nil => rfl
    | cons a r => cases r with
      | nil => rfl
      | cons b r => cases r <;> rfl
  rw [this]
  rfl
def msA (P : Program) (t : Nat) (l c : Int) (H : AH) : Option (AV × AH) :=
  match dT P t with
  | .sl e =>
    match zT P e with
    | some z =>
      if l = c ∧ 0 ≤ l ∧ l ≤ 1048576 ∧ 0 < szT P e ∧ byT P e ≤ 1048576 ∧ z.length = szT P e then
        some (.c (.sl H.length 0 (l.toNat * szT P e) l.toNat), H ++ [.vec (szT P e) (List.replicate l.toNat z).flatten])
      else none
    | none => none
  | _ => none
theorem as_makeSlice {l c : Int} : astep P tab (.makeSlice t x y) [.c (.i l), .c (.i c)] H = msA P t l c H := rfl
end

/-! ### arithmetic -/
section
variable {t : Nat} {x y : BitVec 64} {m n : Int} {p q : Bool}
theorem ab_u_add : abin P .add t (.c (.u x)) (.c (.u y)) = some (.c (.u (x + y))) := rfl
theorem ab_u_sub : abin P .sub t (.c (.u x)) (.c (.u y)) = some (.c (.u (x - y))) := rfl
theorem ab_u_mul : abin P .mul t (.c (.u x)) (.c (.u y)) = some (.c (.u (x * y))) := rfl
theorem ab_u_quo : abin P .quo t (.c (.u x)) (.c (.u y)) = if y = 0#64 then none else some (.c (.u (x / y))) := rfl
theorem ab_u_rem : abin P .rem t (.c (.u x)) (.c (.u y)) = if y = 0#64 then none else some (.c (.u (x % y))) := rfl
theorem ab_u_and : abin P .and t (.c (.u x)) (.c (.u y)) = some (.c (.u (x &&& y))) := rfl
theorem ab_u_or : abin P .or t (.c (.u x)) (.c (.u y)) = some (.c (.u (x ||| y))) := rfl
theorem ab_u_xor : abin P .xor t (.c (.u x)) (.c (.u y)) = some (.c (.u (x ^^^ y))) := rfl
theorem ab_u_andNot : abin P .andNot t (.c (.u x)) (.c (.u y)) = some (.c (.u (x &&& ~~~y))) := rfl
theorem ab_u_eql : abin P .eql t (.c (.u x)) (.c (.u y)) = some (.c (.b (decide (x = y)))) := rfl
theorem ab_u_neq : abin P .neq t (.c (.u x)) (.c (.u y)) = some (.c (.b (!decide (x = y)))) := rfl
theorem ab_u_lss : abin P .lss t (.c (.u x)) (.c (.u y)) = some (.c (.b (decide (x < y)))) := rfl
theorem ab_u_leq : abin P .leq t (.c (.u x)) (.c (.u y)) = some (.c (.b (decide (x ≤ y)))) := rfl
theorem ab_u_gtr : abin P .gtr t (.c (.u x)) (.c (.u y)) = some (.c (.b (decide (y < x)))) := rfl
theorem ab_u_geq : abin P .geq t (.c (.u x)) (.c (.u y)) = some (.c (.b (decide (y ≤ x)))) := rfl
theorem ab_u_shl : abin P .shl t (.c (.u x)) (.c (.u y)) = some (.c (.u (x <<< y.toNat))) := rfl
theorem ab_u_shr : abin P .shr t (.c (.u x)) (.c (.u y)) = some (.c (.u (x >>> y.toNat))) := rfl
theorem ab_i_add : abin P .add t (.c (.i m)) (.c (.i n)) = some (.c (.i (w64 (m + n)))) := rfl
theorem ab_i_sub : abin P .sub t (.c (.i m)) (.c (.i n)) = some (.c (.i (w64 (m - n)))) := rfl
theorem ab_i_mul : abin P .mul t (.c (.i m)) (.c (.i n)) = some (.c (.i (w64 (m * n)))) := rfl
theorem ab_i_quo : abin P .quo t (.c (.i m)) (.c (.i n)) = if n = 0 then none else some (.c (.i (w64 (m.tdiv n)))) := rfl
theorem ab_i_rem : abin P .rem t (.c (.i m)) (.c (.i n)) = if n = 0 then none else some (.c (.i (m.tmod n))) := rfl
theorem ab_i_eql : abin P .eql t (.c (.i m)) (.c (.i n)) = some (.c (.b (decide (m = n)))) := rfl
theorem ab_i_neq : abin P .neq t (.c (.i m)) (.c (.i n)) = some (.c (.b (!decide (m = n)))) := rfl
theorem ab_i_lss : abin P .lss t (.c (.i m)) (.c (.i n)) = some (.c (.b (decide (m < n)))) := rfl
theorem ab_i_leq : abin P .leq t (.c (.i m)) (.c (.i n)) = some (.c (.b (decide (m ≤ n)))) := rfl
theorem ab_i_gtr : abin P .gtr t (.c (.i m)) (.c (.i n)) = some (.c (.b (decide (n < m)))) := rfl
theorem ab_i_geq : abin P .geq t (.c (.i m)) (.c (.i n)) = some (.c (.b (decide (n ≤ m)))) := rfl
theorem ab_i_shlu : abin P .shl t (.c (.i m)) (.c (.u y)) = some (.c (.i (w64 (m * 2 ^ min y.toNat 64)))) := rfl
theorem ab_i_shru : abin P .shr t (.c (.i m)) (.c (.u y)) = some (.c (.i (m / 2 ^ min y.toNat 64))) := rfl
theorem ab_b_eql (h : dT P t = .bool) : abin P .eql t (.c (.b p)) (.c (.b q)) = some (.c (.b (p == q))) := by simp [abin, h, binB]
theorem ab_b_neq (h : dT P t = .bool) : abin P .neq t (.c (.b p)) (.c (.b q)) = some (.c (.b (!(p == q)))) := by simp [abin, h, binB]
theorem ab_s_eql {a b : ByteArray} : abin P .eql t (.c (.s a)) (.c (.s b)) = some (.c (.b (decide (a = b)))) := rfl
theorem ab_s_neq {a b : ByteArray} : abin P .neq t (.c (.s a)) (.c (.s b)) = some (.c (.b (!decide (a = b)))) := rfl
theorem ab_g_eql {a b : List Sc} (g : List Tg) (h : (dT P t).agg = true) (hg : tagsT P 12 t = some g) : abin P .eql t (.g a) (.g b) = (csEq g a b).bind (eqU .eql) := by simp [abin, h, hg]
theorem ab_g_neq {a b : List Sc} (g : List Tg) (h : (dT P t).agg = true) (hg : tagsT P 12 t = some g) : abin P .neq t (.g a) (.g b) = (csEq g a b).bind (eqU .neq) := by simp [abin, h, hg]
theorem au_not : aun .not (.c (.b p)) = some (.c (.b (!p))) := rfl
theorem au_neg_i : aun .neg (.c (.i m)) = some (.c (.i (w64 (-m)))) := rfl
theorem au_neg_u : aun .neg (.c (.u x)) = some (.c (.u (-x))) := rfl
theorem au_xor_u : aun .xor (.c (.u x)) = some (.c (.u (~~~x))) := rfl
theorem cv_ii (h : dT P t = .int .i64) : acv P t (.c (.i m)) = some (.c (.i m)) := by simp [acv, h]
theorem cv_ui (h : dT P t = .int .i64) : acv P t (.c (.u x)) = some (.c (.i x.toInt)) := by simp [acv, h]
theorem cv_iu (h : dT P t = .int .u64) : acv P t (.c (.i m)) = some (.c (.u (BitVec.ofInt 64 m))) := by simp [acv, h]
theorem cv_uu (h : dT P t = .int .u64) : acv P t (.c (.u x)) = some (.c (.u x)) := by simp [acv, h]
end
theorem w64_of {n : Int} (h : -9223372036854775808 ≤ n ∧ n ≤ 9223372036854775807) : w64 n = n := w64_id h.1 h.2
theorem ite_b {c : Prop} [Decidable c] {p q : Bool} : (if c then AV.c (.b p) else AV.c (.b q)) = AV.c (.b (if c then p else q)) := by split <;> rfl
end Go.Am

/- Regions that draw their order: operations that only read. -/
namespace Go.Am
variable {P : Program} {tab : Tab} {N : Nat}

/-- operations that change nothing, whatever they are given -/
def qk : Op → Bool
  | .move _ | .assign _ | .pick _ _ _ | .build _ _ | .load _ _ | .nilCheck _ | .binOp _ _ _ _ _ | .unOp _ _ _ | .convert _ _ _ | .makeFunc _ _ _ | .fieldAddr _ _ _ | .field _ _ _
  | .indexAddr _ _ _ | .index _ _ _ | .slice _ _ _ _ _ | .extract _ _ => true
  | .call ⟨.builtin .len, _, _⟩ | .call ⟨.builtin .min, _, _⟩ | .call ⟨.builtin .max, _, _⟩ => true
  | .call ⟨.value (.func _), _, _⟩ => true
  | _ => false

def slotOf : Operand → Option Nat
  | .tmp t => some t
  | _ => none
/-- the slots that an operation looks at -/
def looks (full : Array Oper) (o : Oper) : List Nat :=
  (opnds o.op).filterMap slotOf ++ (match o.guard with
  | some (j, _) => (dstA full j).toList
  | none => [])
/-- is there an edge from one operation to another one, that holds in every order? -/
def edge (full : Array Oper) (i j : Nat) : Bool :=
  match full[i]? with
  | some o => o.after.any fun e => e.on == j && Region.binds .any e
  | none => false

/-- no table entry but those of values alone -/
def tabPu (tab : Tab) : Bool := tab.all fun e => match e.2 with | .pu _ => true | _ => false

def qdr (full : Array Oper) : Bool :=
  let n := full.size
  (List.range n).all fun i =>
    match full[i]? with
    | none => false
    | some o =>
      qk o.op && o.dst.isSome && o.after.all (fun e => !Region.binds .any e || decide (e.on < i)) &&
      (List.range n).all fun j =>
        match dstA full j with
        | none => false
        | some d => (i == j || o.dst != some d) && (!(looks full o).contains d || (i != j && (if j < i then edge full i j else edge full j i)))

/-- an operation's step, where nothing changes -/
theorem astep_quiet {op : Op} {vs : List AV} {H H' : AH} {v : AV} (hq : qk op = true) (ht : tabPu tab = true) (h : astep P tab op vs H = some (v, H')) : H' = H := by
  have hlook : ∀ f e, Am.look tab f = some e → ∃ s, e = .pu s := by
    intro f e he
    have : ∀ tab : Tab, tabPu tab = true → ∀ f e, Am.look tab f = some e → ∃ s, e = .pu s := by
      intro tab
      induction tab with
      | nil => intro _ f e h; simp [Am.look] at h
      | cons x tab ih =>
        intro ht f e h
        simp only [tabPu, List.all_cons, Bool.and_eq_true] at ht
        obtain ⟨g, y⟩ := x
        simp only [Am.look] at h
        split at h
        · simp at h; subst h
          cases y with
          | pu s => exact ⟨s, rfl⟩
          | fp a b => simp at ht
        · exact ih ht.2 f e h
    exact this tab ht f e he
  unfold astep at h
  split at h
  · unfold callA at h
    split at h
    · simp only [Option.map_eq_some_iff, Prod.mk.injEq] at h; obtain ⟨_, _, _, e⟩ := h; exact e.symm
    · simp at h
  · simp at h
  · simp [qk] at hq
  · split at h
    · simp at h; exact h.2.symm
    · exfalso
      rename_i hn
      unfold eop at h
      split at h <;> simp_all [qk]

theorem ev_agree {fr fm : Fr} {x : Operand} (h : ∀ t, slotOf x = some t → Am.get fm t = Am.get fr t) : ev fm x = ev fr x := by
  cases x with
  | tmp t => exact h t rfl
  | _ => rfl

/-- what an operation of a region gives at a frame: a value, where it is wanted; else nothing -/
inductive Gives (P : Program) (tab : Tab) (full : Array Oper) (H : AH) (fr : Fr) (o : Oper) : AV → Prop
  | go (v : AV) (hg : o.guard = none) (h : astep P tab o.op ((opnds o.op).map (ev fr)) H = some (v, H)) : Gives P tab full H fr o v
  | yes (v : AV) (j : Nat) (q : Bool) (hg : o.guard = some (j, q)) (hw : gval full fr j = some (some q)) (h : astep P tab o.op ((opnds o.op).map (ev fr)) H = some (v, H)) : Gives P tab full H fr o v
  | no (j : Nat) (q : Bool) (r : Option Bool) (hg : o.guard = some (j, q)) (hw : gval full fr j = some r) (hne : r ≠ some q) : Gives P tab full H fr o (.c .und)

theorem Gives.agree {full : Array Oper} {H : AH} {fr fm : Fr} {o : Oper} {v : AV} (h : Gives P tab full H fr o v) (ha : ∀ t ∈ looks full o, Am.get fm t = Am.get fr t) : Gives P tab full H fm o v := by
  have he : (opnds o.op).map (ev fm) = (opnds o.op).map (ev fr) := by
    apply List.map_congr_left
    intro x hx
    refine ev_agree fun t ht => ha t ?_
    simp only [looks, List.mem_append, List.mem_filterMap]
    exact .inl ⟨x, hx, ht⟩
  have hg : ∀ j q, o.guard = some (j, q) → gval full fm j = gval full fr j := by
    intro j q hj
    unfold gval
    cases hd : (full[j]?).bind (·.dst) with
    | none => rfl
    | some d =>
      have : d ∈ looks full o := by
        simp only [looks, List.mem_append, hj]
        right; simp [dstA, hd]
      simp only [ha d this]
  cases h with
  | go v h1 h2 => exact .go v h1 (by rw [he]; exact h2)
  | yes v j q h1 h2 h3 => exact .yes v j q h1 (by rw [hg j q h1]; exact h2) (by rw [he]; exact h3)
  | no j q r h1 h2 h3 => exact .no j q r h1 (by rw [hg j q h1]; exact h2) h3

/-- the text's order, taken apart -/
theorem ops_gives {full : Array Oper} {k : List It} {Q : Fr → AH → Prop} {H : AH} (htp : tabPu tab = true) : ∀ (l : List Oper) (fr : Fr), (l.all fun o => qk o.op) = true → arun P tab (.ops full l :: k) fr H Q →
    ∃ vs : List AV, vs.length = l.length ∧ (∀ i o v, l[i]? = some o → vs[i]? = some v → Gives P tab full H (((l.take i).zip (vs.take i)).foldl (fun f (x : Oper × AV) => putA x.1.dst x.2 f) fr) o v) ∧
      arun P tab k ((l.zip vs).foldl (fun f (x : Oper × AV) => putA x.1.dst x.2 f) fr) H Q := by
  intro l
  induction l with
  | nil => intro fr _ h; rw [arun_ops_nil] at h; exact ⟨[], rfl, by simp, h⟩
  | cons o l ih =>
    intro fr hq h
    simp only [List.all_cons, Bool.and_eq_true] at hq
    have main : ∀ v, Gives P tab full H fr o v → arun P tab (.ops full l :: k) (putA o.dst v fr) H Q → ∃ vs : List AV, vs.length = (o :: l).length ∧ (∀ i o' v, (o :: l)[i]? = some o' → vs[i]? = some v → Gives P tab full H ((((o :: l).take i).zip (vs.take i)).foldl (fun f (x : Oper × AV) => putA x.1.dst x.2 f) fr) o' v) ∧
      arun P tab k (((o :: l).zip vs).foldl (fun f (x : Oper × AV) => putA x.1.dst x.2 f) fr) H Q := by
      intro v hg h2
      obtain ⟨vs, h3, h4, h5⟩ := ih _ hq.2 h2
      refine ⟨v :: vs, by simp [h3], fun i o' v' ho hv => ?_, h5⟩
      cases i with
      | zero => simp at ho hv; subst ho hv; exact hg
      | succ i => simpa using h4 i o' v' (by simpa using ho) (by simpa using hv)
    rw [arun_op] at h
    split at h
    · rename_i hg
      split at h
      · rename_i v H' h1
        obtain rfl := astep_quiet hq.1 htp h1
        exact main v (.go v hg h1) h
      · exact h.elim
    · rename_i j want hg
      split at h
      · rename_i q hgv
        split at h
        · rename_i e; subst e
          split at h
          · rename_i v H' h1
            obtain rfl := astep_quiet hq.1 htp h1
            exact main v (.yes v j q hg hgv h1) h
          · exact h.elim
        · rename_i e
          exact main _ (.no j want _ hg hgv (by simpa using e)) h
      · rename_i hgv
        exact main _ (.no j want _ hg hgv (by simp)) h
      · exact h.elim


/-- a frame in which some of a region's operations have been done -/
def Mix (full : Array Oper) (v : Nat → AV) (fr : Fr) (S : Nat → Prop) (fm : Fr) : Prop :=
  ∀ s, (∀ j, S j → dstA full j = some s → Am.get fm s = v j) ∧ ((∀ j, S j → dstA full j ≠ some s) → Am.get fm s = Am.get fr s)

theorem Mix.put {full : Array Oper} {v : Nat → AV} {fr fm : Fr} {S : Nat → Prop} (h : Mix full v fr S fm) {i d : Nat} (hd : dstA full i = some d) (hdis : ∀ j, S j → dstA full j ≠ some d) :
    Mix full v fr (fun j => S j ∨ j = i) (putA (some d) (v i) fm) := by
  intro s
  simp only [putA, Am.get]
  constructor
  · rintro j (hj | rfl) hs
    · have : d ≠ s := by rintro rfl; exact hdis j hj hs
      rw [if_neg this]; exact (h s).1 j hj hs
    · rw [hd] at hs; simp at hs; rw [if_pos hs]
  · intro hs
    have : d ≠ s := by rintro rfl; exact hs i (.inr rfl) hd
    rw [if_neg this]; exact (h s).2 fun j hj => hs j (.inl hj)

theorem Mix.get_eq {full : Array Oper} {v : Nat → AV} {fr fm fm' : Fr} {S S' : Nat → Prop} (h : Mix full v fr S fm) (h' : Mix full v fr S' fm') (hS : ∀ j, S j ↔ S' j) (s : Nat) : Am.get fm s = Am.get fm' s := by
  by_cases hx : ∃ j, S j ∧ dstA full j = some s
  · obtain ⟨j, h1, h2⟩ := hx
    rw [(h s).1 j h1 h2, (h' s).1 j ((hS j).1 h1) h2]
  · have h1 : ∀ j, S j → dstA full j ≠ some s := fun j hj e => hx ⟨j, hj, e⟩
    rw [(h s).2 h1, (h' s).2 fun j hj => h1 j ((hS j).2 hj)]

theorem qdr_spec {full : Array Oper} (h : qdr full = true) {i : Nat} {o : Oper} (hi : full[i]? = some o) :
    qk o.op = true ∧ (∃ d, o.dst = some d) ∧ (∀ e ∈ o.after, Region.binds .any e = true → e.on < i) ∧
      ∀ j < full.size, ∃ d, dstA full j = some d ∧ (i ≠ j → o.dst ≠ some d) ∧ (d ∈ looks full o → i ≠ j ∧ (j < i → edge full i j = true) ∧ (i < j → edge full j i = true)) := by
  have hlt : i < full.size := by
    rcases Nat.lt_or_ge i full.size with h | h
    · exact h
    · rw [Array.getElem?_eq_none h] at hi; simp at hi
  unfold qdr at h
  have := List.all_eq_true.1 h i (by simpa using hlt)
  rw [hi] at this
  simp only [Bool.and_eq_true] at this
  obtain ⟨⟨⟨h1, h2⟩, h3⟩, h4⟩ := this
  refine ⟨h1, Option.isSome_iff_exists.1 h2, fun e he hb => ?_, fun j hj => ?_⟩
  · have := Array.all_eq_true'.1 h3 e he
    simpa [hb] using this
  · have := List.all_eq_true.1 h4 j (by simpa using hj)
    split at this
    · simp at this
    · rename_i d hd
      simp only [Bool.and_eq_true, Bool.or_eq_true, beq_iff_eq, bne_iff_ne, Bool.not_eq_true'] at this
      refine ⟨d, hd, fun hne => ?_, fun hl => ?_⟩
      · rcases this.1 with h | h
        · exact (hne h).elim
        · simpa using h
      · rcases this.2 with h | ⟨h, h'⟩
        · exfalso; simp at h; exact h hl
        · refine ⟨h, fun hji => ?_, fun hij => ?_⟩
          · rw [if_pos hji] at h'; exact h'
          · rw [if_neg (by omega)] at h'; exact h'

theorem edge_spec {full : Array Oper} {i j : Nat} (h : edge full i j = true) : ∃ o, full[i]? = some o ∧ ∃ e ∈ o.after, e.on = j ∧ Region.binds .any e = true := by
  unfold edge at h
  split at h
  · rename_i o ho
    obtain ⟨e, he, hp⟩ := Array.any_eq_true'.1 h
    simp at hp
    exact ⟨o, ho, e, he, hp⟩
  · simp at h

theorem count_one (p q : Nat → Bool) (i : Nat) (hp : p i = true) (hq : q i = false) (h : ∀ j, j ≠ i → q j = p j) : ∀ n, (i < n → (List.range n).countP q + 1 = (List.range n).countP p) ∧ (n ≤ i → (List.range n).countP q = (List.range n).countP p) := by
  intro n
  induction n with
  | zero => simp
  | succ n ih =>
    rw [List.range_succ, List.countP_append, List.countP_append]
    simp only [List.countP_cons, List.countP_nil, Nat.zero_add]
    by_cases hn : n = i
    · subst hn
      rw [hp, hq, ih.2 (Nat.le_refl _)]
      simp
    · rw [h n hn]
      constructor
      · intro hi; have := ih.1 (by omega); omega
      · intro hi; have := ih.2 (by omega); omega

theorem draw_quiet (ht : TabOk P tab) (htp : tabPu tab = true) (hmix : P.follows .mixedOrders = true) (full : Array Oper) (hq : qdr full = true) (hok : opsOk N full.toList = true) : DrawOk P tab N full := by
  intro id w0 M ρ fr H a w k Q R hs hrun hK
  have hqk : (full.toList.all fun o => qk o.op) = true := by
    rw [List.all_eq_true]
    intro o ho
    obtain ⟨i, hi⟩ := List.getElem?_of_mem ho
    exact (qdr_spec hq (by simpa using hi)).1
  obtain ⟨vs, hvl, hgv, hfin⟩ := ops_gives htp full.toList fr hqk hrun
  have hn : vs.length = full.size := by simpa using hvl
  let v : Nat → AV := fun i => vs.getD i (.c .any)
  have hv : ∀ i, i < full.size → vs[i]? = some (v i) := fun i hi => by simp [v, List.getD_eq_getElem?_getD, hn, hi]
  have hdst : ∀ i o, full[i]? = some o → dstA full i = o.dst := fun i o h => by simp [dstA, h]
  -- the text's frames
  let tf : Nat → Fr := fun i => ((full.toList.take i).zip (vs.take i)).foldl (fun f (x : Oper × AV) => putA x.1.dst x.2 f) fr
  have htf : ∀ i, i ≤ full.size → Mix full v fr (fun j => j < i) (tf i) := by
    intro i
    induction i with
    | zero => intro _ s; exact ⟨fun j hj => by omega, fun _ => rfl⟩
    | succ i ih =>
      intro hi
      obtain ⟨o, ho⟩ : ∃ o, full[i]? = some o := ⟨full[i], by simp⟩
      obtain ⟨_, ⟨d, hd⟩, _, hj⟩ := qdr_spec hq ho
      have e1 : tf (i + 1) = putA o.dst (v i) (tf i) := by
        show ((full.toList.take (i + 1)).zip (vs.take (i + 1))).foldl _ _ = _
        have h1 : full.toList.take (i + 1) = full.toList.take i ++ [o] := by
          rw [List.take_add_one]; simp [ho]
        have h2 : vs.take (i + 1) = vs.take i ++ [v i] := by
          rw [List.take_add_one, hv i (by omega)]; rfl
        rw [h1, h2, List.zip_append (by simp; omega), List.foldl_append]; rfl
      rw [e1, hd]
      have := (ih (by omega)).put (i := i) (d := d) (by rw [hdst i o ho, hd]) (fun j hji => by
        obtain ⟨d', h1, h2, _⟩ := hj j (by omega)
        rw [h1]; intro e; simp at e; exact h2 (by omega) (by rw [hd, e]))
      intro s
      obtain ⟨g1, g2⟩ := this s
      exact ⟨fun j hj' => g1 j (by omega), fun h => g2 fun j hj' => h j (by omega)⟩
  have hgiv : ∀ i o, full[i]? = some o → Gives P tab full H (tf i) o (v i) := by
    intro i o ho
    have hlt : i < full.size := by
      rcases Nat.lt_or_ge i full.size with h | h
      · exact h
      · rw [Array.getElem?_eq_none h] at ho; simp at ho
    exact hgv i o (v i) (by simpa using ho) (hv i hlt)
  have hfin' : arun P tab k (tf full.size) H Q := by
    have e1 : tf full.size = (full.toList.zip vs).foldl (fun f (x : Oper × AV) => putA x.1.dst x.2 f) fr := by
      show ((full.toList.take full.size).zip (vs.take full.size)).foldl _ _ = _
      rw [List.take_of_length_le (by simp), List.take_of_length_le (by omega)]
    rw [e1]; exact hfin
  refine wp_region_any hmix ?_
  -- any order
  have key : ∀ (fuel : Nat) (listed : Array Bool) (fm : Fr) (ρ : Ro) (a : Act) (w : World), listed.size = full.size → ((List.range full.size).countP fun j => !listed.getD j true) = fuel →
      (∀ j o, full[j]? = some o → listed.getD j false = true → ∀ e ∈ o.after, Region.binds .any e = true → listed.getD e.on false = true) →
      Mix full v fr (fun j => listed.getD j false = true) fm → St N w0 M ρ fm H a w → wpAny P .any full R fuel listed a w := by
    intro fuel
    induction fuel with
    | zero =>
      intro listed fm ρ a w hsz hcnt hdown hm hst
      have hall : ∀ j, j < full.size → listed.getD j false = true := by
        intro j hj
        rw [List.countP_eq_zero] at hcnt
        have := hcnt j (by simpa using hj)
        simp [Array.getD_eq_getD_getElem?, hsz, hj] at this ⊢
        exact this
      refine ⟨?_, ?_⟩
      · unfold Region.ready
        rw [List.filter_eq_nil_iff]
        intro j hj
        have := hall j (by simpa using hj)
        have hj' : j < full.size := by simpa using hj
        simp [Array.getD_eq_getD_getElem?, hsz, hj'] at this ⊢
        simp [this]
      · refine hK _ _ hfin' ρ a w ⟨fun s => ?_, hst.sz, hst.df, hst.hr, hst.kp, hst.ow⟩
        have := hm.get_eq (htf full.size (Nat.le_refl _)) (S' := fun j => j < full.size) (fun j => ⟨fun h => by
          rcases Nat.lt_or_ge j full.size with h' | h'
          · exact h'
          · simp [Array.getD_eq_getD_getElem?, Array.getElem?_eq_none (show listed.size ≤ j by omega)] at h, fun h => hall j h⟩) s
        rw [← this]; exact hst.fr s
    | succ fuel ih =>
      intro listed fm ρ a w hsz hcnt hdown hm hst
      have hbd : ∀ j, listed.getD j false = true → j < full.size := by
        intro j h
        rcases Nat.lt_or_ge j full.size with h' | h'
        · exact h'
        · simp [Array.getD_eq_getD_getElem?, Array.getElem?_eq_none (show listed.size ≤ j by omega)] at h
      refine ⟨fun hnil => ?_, fun i hi => ?_⟩
      · -- the first one that is not listed is ready
        exfalso
        have hex : ∃ j, j < full.size ∧ listed.getD j false = false := by
          have : 0 < (List.range full.size).countP fun j => !listed.getD j true := by omega
          obtain ⟨j, hj, hp⟩ := List.countP_pos_iff.1 this
          have hj' : j < full.size := by simpa using hj
          exact ⟨j, hj', by simp [Array.getD_eq_getD_getElem?, hsz, hj'] at hp ⊢; exact hp⟩
        obtain ⟨j, ⟨hj, hjl⟩, hmin⟩ : ∃ j, (j < full.size ∧ listed.getD j false = false) ∧ ∀ i, i < j → ¬ (i < full.size ∧ listed.getD i false = false) := by
          obtain ⟨j0, hj0⟩ := hex
          induction j0 using Nat.strongRecOn with
          | _ j0 ihj =>
            by_cases hx : ∃ i, i < j0 ∧ (i < full.size ∧ listed.getD i false = false)
            · obtain ⟨i, h1, h2⟩ := hx; exact ihj i h1 h2
            · exact ⟨j0, hj0, fun i hi hc => hx ⟨i, hi, hc⟩⟩
        have hmem : j ∈ Region.ready .any full listed := by
          unfold Region.ready
          rw [List.mem_filter]
          refine ⟨by simpa using hj, ?_⟩
          obtain ⟨o, ho⟩ : ∃ o, full[j]? = some o := ⟨full[j], by simp⟩
          obtain ⟨_, _, hed, _⟩ := qdr_spec hq ho
          have h1 : listed.getD j true = false := by simp [Array.getD_eq_getD_getElem?, hsz, hj] at hjl ⊢; exact hjl
          simp only [h1, Bool.not_false, Bool.true_and, ho, Option.map_some, Option.getD_some]
          rw [Array.all_eq_true']
          intro e he
          by_cases hb : Region.binds .any e = true
          · have hlt := hed e he hb
            have := hmin e.on hlt
            have : listed.getD e.on false = true := by
              cases hh : listed.getD e.on false with
              | true => rfl
              | false => exact (this ⟨by omega, hh⟩).elim
            simp [this]
          · simp at hb; simp [hb]
        rw [hnil] at hmem; simp at hmem
      · unfold Region.ready at hi
        rw [List.mem_filter] at hi
        obtain ⟨hir, hip⟩ := hi
        have hilt : i < full.size := by simpa using hir
        obtain ⟨o, ho⟩ : ∃ o, full[i]? = some o := ⟨full[i], by simp⟩
        simp only [Bool.and_eq_true, Bool.not_eq_true', ho, Option.map_some, Option.getD_some] at hip
        obtain ⟨hil, hie⟩ := hip
        have hil' : listed.getD i false = false := by simp [Array.getD_eq_getD_getElem?, hsz, hilt] at hil ⊢; exact hil
        have hedges : ∀ e ∈ o.after, Region.binds .any e = true → listed.getD e.on false = true := by
          intro e he hb
          have := Array.all_eq_true'.1 hie e he
          simpa [hb] using this
        obtain ⟨_, ⟨d, hd⟩, _, hj⟩ := qdr_spec hq ho
        -- the operation's step at this frame
        have hagree : ∀ t ∈ looks full o, Am.get fm t = Am.get (tf i) t := by
          intro t hlt
          by_cases hx : ∃ j, j < full.size ∧ dstA full j = some t
          · obtain ⟨j, hjs, hjd⟩ := hx
            obtain ⟨d', h1, _, h3⟩ := hj j hjs
            rw [h1] at hjd; simp at hjd; subst hjd
            obtain ⟨hne, hlow, hhigh⟩ := h3 hlt
            rcases Nat.lt_or_ge j i with hji | hji
            · obtain ⟨o', ho', e, he, hon, hb⟩ := edge_spec (hlow hji)
              rw [ho] at ho'; simp at ho'; subst ho'
              have hlj : listed.getD j false = true := by rw [← hon]; exact hedges e he hb
              rw [(hm d').1 j hlj h1, (htf i (by omega) d').1 j hji h1]
            · obtain ⟨o', ho', e, he, hon, hb⟩ := edge_spec (hhigh (by omega))
              have uniq : ∀ m, m < full.size → dstA full m = some d' → m = j := by
                intro m hms hmd
                rcases Nat.decEq m j with h | h
                · obtain ⟨om, hom⟩ : ∃ om, full[m]? = some om := ⟨full[m], by simp⟩
                  obtain ⟨_, _, _, hjm⟩ := qdr_spec hq hom
                  obtain ⟨dj, g1, g2, _⟩ := hjm j hjs
                  rw [h1] at g1; simp at g1; subst g1
                  exact (g2 h (by rw [← hdst m om hom, hmd])).elim
                · exact h
              have hnl : ¬ listed.getD j false = true := by
                intro hl
                have := hdown j o' ho' hl e he hb
                rw [hon, hil'] at this; simp at this
              rw [(hm d').2 (fun m hml hmd => hnl (by rw [← uniq m (hbd m hml) hmd]; exact hml)),
                (htf i (by omega) d').2 (fun m hmi hmd => by have := uniq m (by omega) hmd; omega)]
          · have hno : ∀ j, j < full.size → dstA full j ≠ some t := fun j hj e => hx ⟨j, hj, e⟩
            rw [(hm t).2 (fun j hjl => hno j (hbd j hjl)), (htf i (by omega) t).2 (fun j hji => hno j (by omega))]
        have hg := (hgiv i o ho).agree hagree
        have hok' : dstOk N o.dst = true := by
          have := List.all_eq_true.1 hok o (by rw [← Array.getElem?_toList] at ho; exact List.mem_of_getElem? ho)
          exact this
        -- what comes next
        have hlisted : ∀ j, (listed.setIfInBounds i true).getD j false = true ↔ (listed.getD j false = true ∨ j = i) := by
          intro j
          simp only [Array.getD_eq_getD_getElem?, Array.getElem?_setIfInBounds]
          by_cases hji : i = j
          · subst hji; simp [hsz, hilt]
          · rw [if_neg hji]; constructor
            · intro h; exact .inl h
            · rintro (h | h)
              · exact h
              · exact (hji h.symm).elim
        have hnext : ∀ ρ' a' w', St N w0 M ρ' (putA o.dst (v i) fm) H a' w' → wpAny P .any full R fuel (listed.setIfInBounds i true) a' w' := by
          intro ρ' a' w' hst'
          refine ih _ _ ρ' a' w' (by simpa using hsz) ?_ ?_ ?_ hst'
          · have hc := (count_one (fun j => !listed.getD j true) (fun j => !(listed.setIfInBounds i true).getD j true) i (by simp only [hil, Bool.not_false]) (by simp [Array.getD_eq_getD_getElem?, hsz, hilt]) (fun j hji => by
              simp only [Array.getD_eq_getD_getElem?, Array.getElem?_setIfInBounds]
              rw [if_neg (fun e => hji e.symm)]) full.size).1 hilt
            omega
          · intro j oj hoj hlj e he hb
            rw [hlisted] at hlj ⊢
            rcases hlj with hlj | rfl
            · exact .inl (hdown j oj hoj hlj e he hb)
            · rw [ho] at hoj; simp at hoj; subst hoj
              exact .inl (hedges e he hb)
          · have := hm.put (i := i) (d := d) (by rw [hdst i o ho, hd]) (fun j hjl => by
              obtain ⟨d', g1, g2, _⟩ := hj j (hbd j hjl)
              rw [g1]; intro e; simp at e; subst e
              exact g2 (by rintro rfl; rw [hil'] at hjl; simp at hjl) hd)
            rw [hd]
            intro s
            obtain ⟨g1, g2⟩ := this s
            exact ⟨fun j hj' => g1 j ((hlisted j).1 hj'), fun h => g2 fun j hj' => h j ((hlisted j).2 hj')⟩
        unfold wpOp
        rw [ho]
        simp only
        generalize hvi : v i = vi at hg hnext
        cases hg with
        | go _ hg1 h1 =>
          rw [if_pos (by simp [Region.wanted, hg1])]
          exact .inl (op_wp ht hst hok' h1 hnext)
        | yes _ j q hg1 h2 h1 =>
          have hy := gval_spec h2 hst.fr
          rw [if_pos (by simp [Region.wanted, hg1, hy])]
          exact .inl (op_wp ht hst hok' h1 hnext)
        | no j q r hg1 h2 h3 =>
          have hy := gval_spec h2 hst.fr
          rw [if_neg (by simp [Region.wanted, hg1, hy]; exact h3)]
          exact hnext ρ _ w (hst.put hok' rfl)
  have hst0 : St N w0 M ρ fr H a { w with drawn := w.drawn + 1 } := ⟨hs.fr, hs.sz, hs.df, hs.hr.drew, hs.kp.drew, hs.ow⟩
  refine key full.size (Array.replicate full.size false) fr ρ a _ (by simp) ?_ ?_ ?_ hst0
  · rw [List.countP_eq_length.2]
    · simp
    · intro j hj
      have hj' : j < full.size := by simpa using hj
      simp [Array.getD_eq_getD_getElem?, hj']
  · intro j o ho hl
    exfalso
    simp only [Array.getD_eq_getD_getElem?, Array.getElem?_replicate] at hl
    split at hl <;> simp at hl
  · intro s
    refine ⟨fun j hj => ?_, fun _ => rfl⟩
    exfalso
    simp only [Array.getD_eq_getD_getElem?, Array.getElem?_replicate] at hj
    split at hj <;> simp at hj

end Go.Am

/- States that are covered by others; contracts, ready to use. -/
namespace Go.Am
variable {P : Program} {tab : Tab}

def Sc.bel (n : Nat) : Sc → Bool
  | .p id _ _ => decide (id < n)
  | .sl id _ _ _ => decide (id < n)
  | .f _ cs => cs.all fun c => decide (c.1 < n)
  | _ => true
def AV.bel (n : Nat) : AV → Bool
  | .c s => s.bel n
  | .g l => l.all (Sc.bel n)
  | .t _ => false
def cut (ρ : Ro) (n : Nat) : Ro := fun i => if i < n then ρ i else none

theorem PRel.cut {ρ : Ro} {id off ver n : Nat} {v : Value} (h : PRel ρ id off ver v) (hb : id < n) : PRel (cut ρ n) id off ver v := by
  obtain ⟨L, a, h1, h2⟩ := h; exact ⟨L, a, by simp [Am.cut, hb, h1], h2⟩
theorem SRel.cut {ρ : Ro} {s : Sc} {v : Value} {n : Nat} (h : SRel ρ s v) (hb : s.bel n = true) : SRel (Am.cut ρ n) s v := by
  cases s <;> try exact h
  · exact PRel.cut h (by simpa [Sc.bel] using hb)
  · rename_i id off ver len
    obtain ⟨L, b, c, h1, h2⟩ := h
    refine ⟨L, b, c, ?_, h2⟩
    have : id < n := by simpa [Sc.bel] using hb
    simp [Am.cut, this, h1]
  · obtain ⟨cv, h1, h2⟩ := h
    refine ⟨cv, h1, ?_⟩
    simp only [Sc.bel] at hb
    clear h1
    induction h2 with
    | nil => exact .nil
    | cons h _ ih => simp only [List.all_cons, Bool.and_eq_true, decide_eq_true_eq] at hb; exact .cons (PRel.cut h hb.1) (ih hb.2)
theorem L2.cut {ρ : Ro} {n : Nat} {l : List Sc} {c : List Value} (h : L2 (SRel ρ) l c) (hb : l.all (Sc.bel n) = true) : L2 (SRel (Am.cut ρ n)) l c := by
  induction h with
  | nil => exact .nil
  | cons h _ ih => simp only [List.all_cons, Bool.and_eq_true] at hb; exact .cons (h.cut hb.1) (ih hb.2)
theorem VRel.cut {ρ : Ro} {n : Nat} {x : AV} {v : Value} (h : VRel ρ x v) (hb : x.bel n = true) : VRel (Am.cut ρ n) x v := by
  cases x with
  | c s => exact SRel.cut h hb
  | g l => obtain ⟨cs, h1, h2⟩ := h; exact ⟨cs, h1, h2.cut hb⟩
  | t l => simp [AV.bel] at hb

theorem ORel.cut {ρ : Ro} {w : World} {i n : Nat} {o : AObj} (h : ORel ρ w i o) (hi : i < n) (hb : o.cells.all (Sc.bel n) = true) : ORel (Am.cut ρ n) w i o := by
  have hc : Am.cut ρ n i = ρ i := by simp [Am.cut, hi]
  cases o with
  | own cs => obtain ⟨L, c, t, h1, h2, h3, h4, h5, h6, h7⟩ := h; exact ⟨L, c, t, by rw [hc, h1], h2, h3, h4, h5, h6, h7.cut hb⟩
  | vec sz cs =>
    obtain ⟨L, h1, h2, h3, h4, h5, h6⟩ := h
    refine ⟨L, by rw [hc, h1], h2, h3, h4, h5, ?_⟩
    split
    · rename_i hn; rw [if_pos hn] at h6; exact h6
    · rename_i hn; rw [if_neg hn] at h6
      obtain ⟨c, d, t, h7, h8, h9⟩ := h6
      exact ⟨c, d, t, h7, h8, h9.cut hb⟩
  | view cs =>
    obtain ⟨L, h1, h2, h3, h4, h5, h6⟩ := h
    refine ⟨L, by rw [hc, h1], h2, h3, h4, h5, fun j s hjs => ?_⟩
    obtain ⟨v, h7, h8⟩ := h6 j s hjs
    exact ⟨v, h7, h8.cut (List.all_eq_true.1 hb s (List.mem_of_getElem? hjs))⟩
  | dead => trivial

theorem get_mem {fr : Fr} {s : Nat} : Am.get fr s = .c .any ∨ (s, Am.get fr s) ∈ fr := by
  induction fr with
  | nil => exact .inl rfl
  | cons p fr ih =>
    obtain ⟨d, v⟩ := p
    simp only [Am.get]
    split
    · subst_vars; exact .inr (by simp)
    · rcases ih with h | h
      · exact .inl h
      · exact .inr (by simp [h])

/-- objects that are forgotten, or as they were -/
def subH : AH → AH → Prop
  | [], _ => True
  | o' :: r', o :: r => (o' = .dead ∨ o' = o) ∧ subH r' r
  | _ :: _, [] => False
theorem subH_get {H' H : AH} (h : subH H' H) : H'.length ≤ H.length ∧ ∀ i, hg H' i = .dead ∨ hg H' i = hg H i := by
  induction H' generalizing H with
  | nil => exact ⟨by simp, fun i => .inl (by simp [hg])⟩
  | cons o' r' ih =>
    cases H with
    | nil => exact h.elim
    | cons o r =>
      obtain ⟨h1, h2⟩ := h
      obtain ⟨h3, h4⟩ := ih h2
      refine ⟨by simp; omega, fun i => ?_⟩
      cases i with
      | zero => simpa [hg] using h1
      | succ i => simpa [hg] using h4 i

/-- slots and objects are forgotten -/
theorem Wk.wk {fr fr' : Fr} {H H' : AH} (hf : ∀ p ∈ fr', Am.get fr p.1 = p.2) (hb : (fr'.all fun p => p.2.bel H'.length) = true) (hH : subH H' H) (ho : (H'.all fun o => o.cells.all (Sc.bel H'.length)) = true) :
    Wk fr H (fr', H') := by
  intro ρ w tm h1 h2
  obtain ⟨hlen, hget⟩ := subH_get hH
  have hown : ∀ i, (hg H' i).owned = true → hg H' i = hg H i := by
    intro i hi
    rcases hget i with e | e
    · rw [e] at hi; simp [AObj.owned] at hi
    · exact e
  have hlive : ∀ i, (hg H' i).live = true → hg H' i = hg H i := by
    intro i hi
    rcases hget i with e | e
    · rw [e] at hi; simp [AObj.live] at hi
    · exact e
  refine ⟨Am.cut ρ H'.length, fun s => ?_, ⟨fun i => ?_, fun i j Li Lj hij hio hLi hni hjl hLj hnj => ?_, fun i hi => ?_⟩, fun i L hi hL hn => ?_⟩
  · rcases get_mem (fr := fr') (s := s) with h | h
    · show VRel _ (Am.get fr' s) _
      rw [h]; trivial
    · show VRel _ (Am.get fr' s) _
      have e := hf _ h
      have hbel := List.all_eq_true.1 hb _ h
      have := h1 s
      simp only at e
      rw [e] at this
      exact this.cut hbel
  · rcases Nat.lt_or_ge i H'.length with hi | hi
    · show ORel _ _ _ (hg H' i)
      rcases hget i with e | e
      · rw [e]; trivial
      · have hO := h2.obj i
        rw [← e] at hO
        refine hO.cut hi ?_
        have : hg H' i ∈ H' := by
          unfold hg; rw [List.getD_eq_getElem?_getD, List.getElem?_eq_getElem hi]; simp
        exact List.all_eq_true.1 ho _ this
    · show ORel _ _ _ (hg H' i)
      rw [hg_ge _ hi]; trivial
  · have hi := hg_lt (AObj.owned_live hio)
    have hj := hg_lt hjl
    simp only at hi hj hio hjl
    rw [hown i hio] at hio
    rw [hlive j hjl] at hjl
    exact h2.sep i j Li Lj hij hio (by simpa [Am.cut, hi] using hLi) hni hjl (by simpa [Am.cut, hj] using hLj) hnj
  · simp only [Am.cut]; rw [if_neg (by simp at hi; omega)]
  · have hlt := hg_lt (AObj.owned_live hi)
    simp only at hi hlt
    exact ⟨i, by rw [← hown i hi]; exact hi, by simpa [Am.cut, hlt] using hL⟩

/-- slots and the last objects are forgotten -/
theorem Wk.drop {fr fr' : Fr} {H H' : AH} (hf : ∀ p ∈ fr', Am.get fr p.1 = p.2) (hb : (fr'.all fun p => p.2.bel H'.length) = true) (hH : H.take H'.length = H') (ho : (H'.all fun o => o.cells.all (Sc.bel H'.length)) = true) :
    Wk fr H (fr', H') := by
  intro ρ w tm h1 h2
  have hlen : H'.length ≤ H.length := by rw [← hH]; simp; omega
  have hget : ∀ i, i < H'.length → hg H' i = hg H i := by
    intro i hi
    unfold hg
    rw [← hH]; simp [List.getD_eq_getElem?_getD, hi]
  refine ⟨Am.cut ρ H'.length, fun s => ?_, ⟨fun i => ?_, fun i j Li Lj hij hio hLi hni hjl hLj hnj => ?_, fun i hi => ?_⟩, fun i L hi hL hn => ?_⟩
  · rcases get_mem (fr := fr') (s := s) with h | h
    · show VRel _ (Am.get fr' s) _
      rw [h]; trivial
    · show VRel _ (Am.get fr' s) _
      have e := hf _ h
      have hbel := List.all_eq_true.1 hb _ h
      have := h1 s
      simp only at e
      rw [e] at this
      exact this.cut hbel
  · rcases Nat.lt_or_ge i H'.length with hi | hi
    · have hO := h2.obj i
      rw [← hget i hi] at hO
      refine hO.cut hi ?_
      have : hg H' i ∈ H' := by
        unfold hg; rw [List.getD_eq_getElem?_getD, List.getElem?_eq_getElem hi]; simp
      exact List.all_eq_true.1 ho _ this
    · show ORel _ _ _ (hg H' i)
      rw [hg_ge _ hi]; trivial
  · have hi := hg_lt (AObj.owned_live hio)
    have hj := hg_lt hjl
    simp only at hi hj hio hjl
    rw [hget i hi] at hio
    rw [hget j hj] at hjl
    exact h2.sep i j Li Lj hij hio (by simpa [Am.cut, hi] using hLi) hni hjl (by simpa [Am.cut, hj] using hLj) hnj
  · simp only [Am.cut]; rw [if_neg (by simp at hi; omega)]
  · have hlt := hg_lt (AObj.owned_live hi)
    simp only at hi hlt
    exact ⟨i, by rw [← hget i hlt]; exact hi, by simpa [Am.cut, hlt] using hL⟩

theorem Wk.trans {fr : Fr} {H : AH} {S T : Fr × AH} (h : Wk fr H S) (h' : Wk S.1 S.2 T) : Wk fr H T := by
  intro ρ w tm h1 h2
  obtain ⟨ρ1, a1, a2, a3⟩ := h ρ w tm h1 h2
  obtain ⟨ρ2, b1, b2, b3⟩ := h' ρ1 w tm a1 a2
  refine ⟨ρ2, b1, b2, fun i L hi hL hn => ?_⟩
  obtain ⟨j, hj, hL'⟩ := b3 i L hi hL hn
  exact a3 j L hj hL' hn

/-- a nil slice is a row of nothing -/
theorem Wk.nil {fr : Fr} {H : AH} (d sz : Nat) (hsz : 0 < sz) (hd : Am.get fr d = .c .nils) : Wk fr H ((d, .c (.sl H.length 0 0 0)) :: fr, H ++ [.vec sz []]) := by
  intro ρ w tm h1 h2
  have hst : Stab ρ (upd ρ H.length ⟨0, 0, 0, 0, true, true⟩) := by
    intro i Li hi
    have : i ≠ H.length := by rintro rfl; rw [h2.fresh _ (Nat.le_refl _)] at hi; simp at hi
    exact ⟨Li, by rw [upd_ne _ _ this, hi], .inl rfl⟩
  refine ⟨upd ρ H.length ⟨0, 0, 0, 0, true, true⟩, fun s => ?_, ⟨fun i => ?_, fun i j Li Lj hij hio hLi hni hjl hLj hnj => ?_, fun i hi => ?_⟩, fun i L hi hL hn => ?_⟩
  · simp only [Am.get]
    split
    · rename_i hds
      rw [← hds]
      have := h1 d
      rw [hd] at this
      have e : tm d = .slice none 0 0 := this
      rw [e]
      refine ⟨_, none, 0, upd_same _ _ _, rfl, by simp, by omega, by omega, Nat.le_refl _, fun _ => ?_⟩
      rw [if_pos rfl]; simp
    · exact (h1 s).mono hst
  · rw [hg_append]
    split
    · subst_vars
      refine ⟨_, upd_same _ _ _, rfl, rfl, rfl, hsz, ?_⟩
      rw [if_pos rfl]; simp
    · rename_i hne
      exact (h2.obj i).keep hst (upd_ne _ _ hne) (fun _ _ _ _ => rfl) (Nat.le_refl _)
  · have hni' : i ≠ H.length := by rintro rfl; rw [upd_same] at hLi; simp at hLi; subst hLi; simp at hni
    have hnj' : j ≠ H.length := by rintro rfl; rw [upd_same] at hLj; simp at hLj; subst hLj; simp at hnj
    rw [hg_append, if_neg hni'] at hio
    rw [hg_append, if_neg hnj'] at hjl
    rw [upd_ne _ _ hni'] at hLi
    rw [upd_ne _ _ hnj'] at hLj
    exact h2.sep i j Li Lj hij hio hLi hni hjl hLj hnj
  · simp at hi
    rw [upd_ne _ _ (by omega)]; exact h2.fresh i (by omega)
  · have hni' : i ≠ H.length := by rintro rfl; rw [upd_same] at hL; simp at hL; subst hL; simp at hn
    rw [hg_append, if_neg hni'] at hi
    rw [upd_ne _ _ hni'] at hL
    exact ⟨i, hi, hL⟩

/-- A function of values alone. -/
theorem pu_ok {f : Nat} {fn : Func} {code : Code} {rs : List ResultVar} {n : Nat} {s : List AV → Option AV} (hmix : P.follows .mixedOrders = true) (htp : tabPu tab = true) (ht : TabOk P tab)
    (hf : P.funcs[f]? = some fn) (hb : fn.body = some code) (hrs : fn.results = rs.toArray) (hn : fn.ntmps = n) (hname : (fn.name == "runtime.NumGoroutine") = false) (hok : okC n qdr code = true)
    (h : ∀ args v, s args = some v → args.length ≤ n ∧ args.all AV.pf = true ∧ v.pf = true ∧ arun P tab [.c code] (frA 0 args) [] (fun fr H => resA P fr H rs = some v)) : PuOk P f s :=
  pu_of_arun qdr hf hb hrs hn hname ht (fun ops h1 h2 => draw_quiet ht htp hmix ops h1 h2) hok h

theorem Keep.grown {w w' : World} (h : Keep w (fun _ => False) w') : RowKit.Grown w w' := by
  refine ⟨⟨h.os, h.output, fun i hi => ?_⟩, fun a => ?_, h.size⟩
  · rw [h.old i hi (fun f => f)]
    split <;> simp_all
  · rcases Nat.lt_or_ge a.block w.heap.size with hl | hg
    · simp only [World.frozen?]; rw [h.old _ hl (fun f => f)]
    · have e1 : w.frozen? a = false := by simp [World.frozen?, Array.getElem?_eq_none hg]
      rw [e1]
      unfold World.frozen?
      split
      · rename_i c t lo hi heq
        have := h.free _ _ _ _ heq (.inl hg)
        simp at this; obtain ⟨rfl, rfl⟩ := this; simp
      · rfl

/-- a law's arguments, as they are given -/
theorem rel_u {ρ : Ro} {a : Int} (h : (Lit.int .u64 a).wf = true) : VRel ρ (.c (.u (BitVec.ofInt 64 a))) (.int .u64 a) := by
  have h' : 0 ≤ a ∧ a ≤ 18446744073709551615 := by
    simpa [Lit.wf, IntKind.min, IntKind.max, IntKind.bits, IntKind.signed] using h
  have e : ((BitVec.ofInt 64 a).toNat : Int) = a := by rw [BitVec.toNat_ofInt]; omega
  show _ = _
  rw [e]
theorem rel_i {ρ : Ro} {a : Int} (h : (Lit.int .i64 a).wf = true) : VRel ρ (.c (.i a)) (.int .i64 a) := by
  have h' : -9223372036854775808 ≤ a ∧ a ≤ 9223372036854775807 := by
    simpa [Lit.wf, IntKind.min, IntKind.max, IntKind.bits, IntKind.signed] using h
  exact ⟨rfl, h'⟩
theorem rel_b {ρ : Ro} {a : Bool} : VRel ρ (.c (.b a)) (.bool a) := rfl

/-- a function that answers true: what a law's walk asks -/
theorem walk_true {f : Nat} {s : List AV → Option AV} {args : List AV} {cs : List Value} (h : PuOk P f s) (hs : s args = some (.c (.b true))) (hr : L2 (VRel ρ0) args cs) (w : World) :
    Calls P f cs.toArray w fun e w' => e = .returned (.bool true) ∧ RowKit.Grown w w' := by
  refine (h.pure args _ hs ρ0 w cs hr).mono fun e w' ⟨vc, he, hv, hk⟩ => ?_
  have : vc = .bool true := hv ρ0
  exact ⟨by rw [he, this], hk.grown⟩

end Go.Am
