/- Layers 15, 16: the document, part 1: contracts. -/
import Derived.Test.YtfddaaplnnlfoaaBfB
namespace Go.Proofs.Ytfddaaplnnlfoaa
open Go.Am
set_option linter.unusedSimpArgs false
set_option linter.unusedVariables false
noncomputable section

/-! ## XBp1 -/
section
/-! ### parts of a word -/
def pt15 (w : BitVec 64) (b : Int) : BitVec 64 := if b = 1 then w % 4294967296#64 else if b = 2 then w / 4294967296#64 else w
def wt15 (w : BitVec 64) (b : Int) (v : BitVec 64) : BitVec 64 := if b = 1 then w - w % 4294967296#64 + v % 4294967296#64 else if b = 2 then w % 4294967296#64 + v % 4294967296#64 * 4294967296#64 else v
def s_rpart15 (args : List AV) : Option AV :=
  match args with
  | [.c (.u w), .c (.i b)] => some (.c (.u (pt15 w b)))
  | _ => none
theorem s_rpart15_eq {w b} : s_rpart15 [.c (.u w), .c (.i b)] = some (.c (.u (pt15 w b))) := rfl
set_option maxRecDepth 100000 in
set_option maxHeartbeats 2000000 in
theorem ok_rpart15 : PuOk Try.prog 75 s_rpart15 := by
  refine pu_ok (tab := []) hmix TabOk.nil Try.func75 rfl Try.results75 Try.ntmps75 (by kernel_rfl) (by kernel_rfl) ?_
  intro args v h
  unfold s_rpart15 at h
  split at h
  · rename_i w b
    simp only [Option.some.injEq] at h; subst h
    refine ⟨by simp only [List.length_cons, List.length_nil]; decide, rfl, rfl, ?_⟩
    unfold pt15
    rcases Classical.propComplete (b = 1) with h1 | h1
    · (try simp (config := { maxSteps := 10000000 }) only [go_sem, seval, h1]; repeat (simp (disch := omega) only [w64_d, ipos, ineg, dpos, dneg]; try simp (config := { maxSteps := 10000000 }) only [go_sem, seval, h1]))
    rcases Classical.propComplete (b = 2) with h2 | h2
    all_goals (try simp (config := { maxSteps := 10000000 }) only [go_sem, seval, h1, h2]; repeat (simp (disch := omega) only [w64_d, ipos, ineg, dpos, dneg]; try simp (config := { maxSteps := 10000000 }) only [go_sem, seval, h1, h2]))
  · simp at h
def s_rwith15 (args : List AV) : Option AV :=
  match args with
  | [.c (.u w), .c (.i b), .c (.u v)] => some (.c (.u (wt15 w b v)))
  | _ => none
theorem s_rwith15_eq {w b v} : s_rwith15 [.c (.u w), .c (.i b), .c (.u v)] = some (.c (.u (wt15 w b v))) := rfl
set_option maxRecDepth 100000 in
set_option maxHeartbeats 2000000 in
theorem ok_rwith15 : PuOk Try.prog 79 s_rwith15 := by
  refine pu_ok (tab := []) hmix TabOk.nil Try.func79 rfl Try.results79 Try.ntmps79 (by kernel_rfl) (by kernel_rfl) ?_
  intro args v h
  unfold s_rwith15 at h
  split at h
  · rename_i w b v
    simp only [Option.some.injEq] at h; subst h
    refine ⟨by simp only [List.length_cons, List.length_nil]; decide, rfl, rfl, ?_⟩
    unfold wt15
    rcases Classical.propComplete (b = 1) with h1 | h1
    · (try simp (config := { maxSteps := 10000000 }) only [go_sem, seval, h1]; repeat (simp (disch := omega) only [w64_d, ipos, ineg, dpos, dneg]; try simp (config := { maxSteps := 10000000 }) only [go_sem, seval, h1]))
    rcases Classical.propComplete (b = 2) with h2 | h2
    all_goals (try simp (config := { maxSteps := 10000000 }) only [go_sem, seval, h1, h2]; repeat (simp (disch := omega) only [w64_d, ipos, ineg, dpos, dneg]; try simp (config := { maxSteps := 10000000 }) only [go_sem, seval, h1, h2]))
  · simp at h
theorem and4 (a b c d : BitVec 64) : (a &&& b) &&& (c &&& d) = (a &&& c) &&& (b &&& d) := by
  rw [BitVec.and_assoc, BitVec.and_assoc, ← BitVec.and_assoc b c d, BitVec.and_comm b c, BitVec.and_assoc c b d]
theorem lo_and (w : BitVec 64) : w &&& 4294967295#64 = w % 4294967296#64 := by
  apply BitVec.eq_of_toNat_eq
  rw [BitVec.toNat_and, BitVec.toNat_umod, show (4294967295#64).toNat = 2 ^ 32 - 1 from rfl, show (4294967296#64).toNat = 2 ^ 32 from rfl, Nat.and_two_pow_sub_one_eq_mod]
theorem pt_lo (w : BitVec 64) : w >>> (0#64).toNat &&& 4294967295#64 = pt15 w 1 := by
  rw [show (0#64).toNat = 0 from rfl, BitVec.ushiftRight_zero, lo_and]; rfl
theorem pt_hi (w : BitVec 64) : w >>> (32#64).toNat &&& 4294967295#64 = pt15 w 2 := by
  rw [show (32#64).toNat = 32 from rfl, lo_and]
  apply BitVec.eq_of_toNat_eq
  show _ = (w / 4294967296#64).toNat
  rw [BitVec.toNat_umod, BitVec.toNat_ushiftRight, BitVec.toNat_udiv, Nat.shiftRight_eq_div_pow, show (4294967296#64).toNat = 4294967296 from rfl]
  have := w.isLt
  omega
theorem wt_lo (w v : BitVec 64) : w &&& ~~~(4294967295#64 <<< (0#64).toNat) ||| v <<< (0#64).toNat &&& 4294967295#64 <<< (0#64).toNat = wt15 w 1 v := by
  show _ = w - w % 4294967296#64 + v % 4294967296#64
  rw [show (0#64).toNat = 0 from rfl, BitVec.shiftLeft_zero, BitVec.shiftLeft_zero, ← lo_and w, ← lo_and v]
  have d0 : ∀ x y : BitVec 64, (x &&& ~~~4294967295#64) &&& (y &&& 4294967295#64) = 0#64 := fun x y => by
    rw [and4 x (~~~4294967295#64) y 4294967295#64, show ~~~4294967295#64 &&& 4294967295#64 = 0#64 from rfl, BitVec.and_zero]
  have s1 : (w &&& ~~~4294967295#64) + (w &&& 4294967295#64) = w := by
    rw [BitVec.add_eq_or_of_and_eq_zero _ _ (d0 w w)]
    rw [show (w &&& ~~~4294967295#64) ||| (w &&& 4294967295#64) = w &&& (~~~4294967295#64 ||| 4294967295#64) by rw [BitVec.and_or_distrib_left]]
    rw [show ~~~4294967295#64 ||| 4294967295#64 = BitVec.allOnes 64 from rfl, BitVec.and_allOnes]
  have s2 : w - (w &&& 4294967295#64) = w &&& ~~~4294967295#64 := by
    conv => lhs; lhs; rw [← s1]
    rw [BitVec.add_sub_cancel]
  rw [s2, BitVec.add_eq_or_of_and_eq_zero _ _ (d0 w v)]
theorem wt_hi (w v : BitVec 64) : w &&& ~~~(4294967295#64 <<< (32#64).toNat) ||| v <<< (32#64).toNat &&& 4294967295#64 <<< (32#64).toNat = wt15 w 2 v := by
  show _ = w % 4294967296#64 + v % 4294967296#64 * 4294967296#64
  rw [show (32#64).toNat = 32 from rfl, show ~~~(4294967295#64 <<< 32) = 4294967295#64 from rfl, ← BitVec.shiftLeft_and_distrib]
  have e : ∀ x : BitVec 64, x * 4294967296#64 = x <<< 32 := fun x => by
    apply BitVec.eq_of_toNat_eq
    rw [BitVec.toNat_mul, BitVec.toNat_shiftLeft, Nat.shiftLeft_eq]; rfl
  rw [e, ← lo_and w, ← lo_and v]
  rw [BitVec.add_eq_or_of_and_eq_zero]
  rw [BitVec.shiftLeft_and_distrib, and4 w 4294967295#64 (v <<< 32) (4294967295#64 <<< 32), show 4294967295#64 &&& 4294967295#64 <<< 32 = 0#64 from rfl, BitVec.and_zero]
/-! ### the clock as it is handed over -/
theorem ckC_inj {a b : Ck} (ha : CkOk a) (hb : CkOk b) (h : ckC a = ckC b) : a = b := ck_enc.i _ _ ha hb h
structure CkI (c : Ck) : Prop where
  ok : CkOk c
  n0 : 1 ≤ c.n
theorem ckR_pt {c : Ck} (h : CkI c) (off : BitVec 64) (sz : Int) : ckR c (ckAt c.n off sz) sz = if (ckAt c.n off sz).k = 0 then 0#64 else if (ckAt c.n off sz).k = 1 then (if c.s.getD (ckAt c.n off sz).h false = true then 1#64 else 0#64) else pt15 (ckV c (ckAt c.n off sz)) (bitsC sz (ckAt c.n off sz)) := by
  have ck := ck_cases h.n0 h.ok.n1 off sz
  generalize ckAt c.n off sz = a at *
  unfold ckR
  cases ck with
  | c1 _ _ hs _ ha => subst hs ha; rfl
  | c2 _ _ hs _ ha => subst hs ha; simp [bitsC, pt15]
  | c3 _ _ hs _ ha => subst hs ha; exact pt_lo _
  | c4 _ _ hs _ ha => subst hs ha; exact pt_hi _
  | c5 hs _ ha => subst hs ha; simp [bitsC, pt15]
  | c6 hs _ ha => subst hs ha; exact pt_lo _
  | c7 hs _ ha => subst hs ha; exact pt_hi _
  | c0 ha => subst ha; rfl
theorem ckW_wt {c : Ck} (h : CkI c) (off : BitVec 64) (sz : Int) (v : BitVec 64) : ckW c (ckAt c.n off sz) sz v = if (ckAt c.n off sz).k = 0 then c else if (ckAt c.n off sz).k = 1 then { c with s := c.s.set (ckAt c.n off sz).h (decide (v &&& 1#64 = 1#64)) } else ckPut c (ckAt c.n off sz) (wt15 (ckV c (ckAt c.n off sz)) (bitsC sz (ckAt c.n off sz)) v) := by
  have ck := ck_cases h.n0 h.ok.n1 off sz
  generalize ckAt c.n off sz = a at *
  unfold ckW
  cases ck with
  | c1 _ _ hs _ ha => subst hs ha; rfl
  | c2 _ _ hs _ ha => subst hs ha; simp [bitsC, wt15]
  | c3 _ _ hs _ ha => subst hs ha; rw [if_neg (by simp), if_neg (by simp), if_neg (by decide), if_neg (by simp), if_neg (by simp), show bitsC 4 _ = 1 from rfl, ← wt_lo]
  | c4 _ _ hs _ ha => subst hs ha; rw [if_neg (by simp), if_neg (by simp), if_neg (by decide), if_neg (by simp), if_neg (by simp), show bitsC 4 _ = 2 from rfl, ← wt_hi]
  | c5 hs _ ha => subst hs ha; simp [bitsC, wt15]
  | c6 hs _ ha => subst hs ha; rw [if_neg (by simp), if_neg (by simp), if_neg (by decide), if_neg (by simp), if_neg (by simp), show bitsC 4 _ = 1 from rfl, ← wt_lo]
  | c7 hs _ ha => subst hs ha; rw [if_neg (by simp), if_neg (by simp), if_neg (by decide), if_neg (by simp), if_neg (by simp), show bitsC 4 _ = 2 from rfl, ← wt_hi]
  | c0 ha => subst ha; rfl

variable {H : AH} {c : Ck}
def q_r15r (args : List AV) (H : AH) (v : AV) : Prop := ∀ c off sz, CkI c → args = [.g (ckC c), .c (.u off), .c (.i sz)] → v = .t [.c (.u (ckR c (ckAt c.n off sz) sz)), .c (.b (!decide ((ckAt c.n off sz).k = 0)))]
def s_r15r : List AV → AH → Option AV := frQ Try.prog [(41, .pu s_rat15), (75, .pu s_rpart15)] 45 q_r15r
set_option maxRecDepth 100000 in
set_option maxHeartbeats 2000000 in
theorem ok_r15r : FpOk Try.prog 45 (fun args H => (s_r15r args H).map fun v => (v, H)) := frQ_ok hmix (TabOk.cons (e := .pu s_rat15) ok_rat15 (TabOk.cons (e := .pu s_rpart15) ok_rpart15 TabOk.nil)) Try.func45 rfl Try.results45 Try.ntmps45 (by kernel_rfl) (by kernel_rfl)
theorem s_r15r_eq (hc : CkI c) (off : BitVec 64) (sz : Int) : s_r15r [.g (ckC c), .c (.u off), .c (.i sz)] H = some (.t [.c (.u (ckR c (ckAt c.n off sz) sz)), .c (.b (!decide ((ckAt c.n off sz).k = 0)))]) := by
  have : ∃ v, s_r15r [.g (ckC c), .c (.u off), .c (.i sz)] H = some v ∧ q_r15r [.g (ckC c), .c (.u off), .c (.i sz)] H v := by
    unfold s_r15r
    apply frQ_ex (v := .t [.c (.u (ckR c (ckAt c.n off sz) sz)), .c (.b (!decide ((ckAt c.n off sz).k = 0)))]) Try.func45 rfl Try.results45 Try.ntmps45 (by simp only [List.length_cons, List.length_nil]; decide)
    · exact fun _ _ => rfl
    · intro _ _
      have ll := ckC_l hc.ok
      have lo := ckC_one c
      have d0 := ck_0 c
      have d1 := ck_1 c
      have at' := s_rat15_eq (n := c.n) (off := off) (sz := sz)
      rw [if_pos ⟨hc.n0, hc.ok.n1⟩] at at'
      rw [ckR_pt hc]
      have hh := ckAt_h hc.ok.n0 hc.ok.n1 off sz
      have hk := ckAt_k c.n off sz
      generalize bitsC sz (ckAt c.n off sz) = z at *
      generalize ckAt c.n off sz = a at *
      obtain ⟨ak, ah, au⟩ := a
      simp only at hh hk at'
      have dc := ck_c hc.ok hh
      have ds := ck_s hc.ok hh
      rcases hk with rfl | rfl | rfl | rfl
      · (try simp (config := { maxSteps := 10000000 }) only [go_sem, seval, at', d0, ll, lo]; repeat (simp (disch := omega) only [w64_d, ipos, ineg, dpos, dneg]; try simp (config := { maxSteps := 10000000 }) only [go_sem, seval, at', d0, ll, lo]))
        exact subH_app _ _
      · cases hs : c.s.getD ah false
        all_goals rw [hs] at ds
        all_goals (try simp (config := { maxSteps := 10000000 }) only [go_sem, seval, at', d0, ll, lo, ds, Int.toNat_natCast]; repeat (simp (disch := omega) only [w64_d, ipos, ineg, dpos, dneg]; try simp (config := { maxSteps := 10000000 }) only [go_sem, seval, at', d0, ll, lo, ds, Int.toNat_natCast]))
        all_goals exact subH_app _ _
      · (try simp (config := { maxSteps := 10000000 }) only [go_sem, seval, at', d0, ll, lo, dc, s_rpart15_eq, ckV, Int.toNat_natCast]; repeat (simp (disch := omega) only [w64_d, ipos, ineg, dpos, dneg]; try simp (config := { maxSteps := 10000000 }) only [go_sem, seval, at', d0, ll, lo, dc, s_rpart15_eq, ckV, Int.toNat_natCast]))
        exact subH_app _ _
      · (try simp (config := { maxSteps := 10000000 }) only [go_sem, seval, at', d0, d1, ll, lo, s_rpart15_eq, ckV, Int.toNat_natCast]; repeat (simp (disch := omega) only [w64_d, ipos, ineg, dpos, dneg]; try simp (config := { maxSteps := 10000000 }) only [go_sem, seval, at', d0, d1, ll, lo, s_rpart15_eq, ckV, Int.toNat_natCast]))
        exact subH_app _ _
    · intro c' off' sz' hc' he
      simp only [List.cons.injEq, AV.g.injEq, AV.c.injEq, Sc.u.injEq, Sc.i.injEq, and_true] at he
      obtain ⟨e1, rfl, rfl⟩ := he
      obtain rfl := ckC_inj hc.ok hc'.ok e1
      rfl
  obtain ⟨v, h1, h2⟩ := this
  rw [h1, h2 c off sz hc rfl]
theorem and_m2 (w : BitVec 64) : (w % 2#64 = 1#64) = (w &&& 1#64 = 1#64) := by
  have : w &&& 1#64 = w % 2#64 := by
    apply BitVec.eq_of_toNat_eq
    rw [BitVec.toNat_and, BitVec.toNat_umod, show (1#64).toNat = 2 ^ 1 - 1 from rfl, show (2#64).toNat = 2 ^ 1 from rfl, Nat.and_two_pow_sub_one_eq_mod]
  rw [this]
def q_r15w (args : List AV) (H : AH) (v : AV) : Prop := ∀ c off sz w, CkI c → args = [.g (ckC c), .c (.u off), .c (.i sz), .c (.u w)] → v = .t [.g (ckC (ckW c (ckAt c.n off sz) sz w)), .c (.b (!decide ((ckAt c.n off sz).k = 0)))]
def s_r15w : List AV → AH → Option AV := frQ Try.prog [(41, .pu s_rat15), (79, .pu s_rwith15)] 48 q_r15w
set_option maxRecDepth 100000 in
set_option maxHeartbeats 2000000 in
theorem ok_r15w : FpOk Try.prog 48 (fun args H => (s_r15w args H).map fun v => (v, H)) := frQ_ok hmix (TabOk.cons (e := .pu s_rat15) ok_rat15 (TabOk.cons (e := .pu s_rwith15) ok_rwith15 TabOk.nil)) Try.func48 rfl Try.results48 Try.ntmps48 (by kernel_rfl) (by kernel_rfl)
theorem s_r15w_eq (hc : CkI c) (off : BitVec 64) (sz : Int) (w : BitVec 64) : s_r15w [.g (ckC c), .c (.u off), .c (.i sz), .c (.u w)] H = some (.t [.g (ckC (ckW c (ckAt c.n off sz) sz w)), .c (.b (!decide ((ckAt c.n off sz).k = 0)))]) := by
  have : ∃ v, s_r15w [.g (ckC c), .c (.u off), .c (.i sz), .c (.u w)] H = some v ∧ q_r15w [.g (ckC c), .c (.u off), .c (.i sz), .c (.u w)] H v := by
    have okW := ckW_ok hc.ok (ckAt c.n off sz) sz w
    unfold s_r15w
    apply frQ_ex (v := .t [.g (ckC (ckW c (ckAt c.n off sz) sz w)), .c (.b (!decide ((ckAt c.n off sz).k = 0)))]) Try.func48 rfl Try.results48 Try.ntmps48 (by simp only [List.length_cons, List.length_nil]; decide)
    · intro _ _
      show ((ckC _).all (Sc.bel H.length) && (true && true)) = true
      rw [ckC_bel]; rfl
    · intro _ _
      have ll := ckC_l hc.ok
      have lo := ckC_one c
      have d0 := ck_0 c
      have d1 := ck_1 c
      have at' := s_rat15_eq (n := c.n) (off := off) (sz := sz)
      rw [if_pos ⟨hc.n0, hc.ok.n1⟩] at at'
      have lW := ckC_l okW
      have oW := ckC_one (ckW c (ckAt c.n off sz) sz w)
      have tW : List.take 18 (ckC (ckW c (ckAt c.n off sz) sz w)) = ckC (ckW c (ckAt c.n off sz) sz w) := List.take_of_length_le (by omega)
      rw [ckW_wt hc] at lW oW tW ⊢
      have hh := ckAt_h hc.ok.n0 hc.ok.n1 off sz
      have hk := ckAt_k c.n off sz
      have m2 := and_m2 w
      generalize bitsC sz (ckAt c.n off sz) = z at *
      generalize ckAt c.n off sz = a at *
      obtain ⟨ak, ah, au⟩ := a
      simp only at hh hk at'
      have dc := ck_c hc.ok hh
      have ws := fun v => wr_td (ckw_s hc.ok hh v)
      have wc := fun v => wr_td (ckw_c hc.ok hh v)
      have w1 := fun v => wr_td (ckw_1 c v)
      rcases hk with rfl | rfl | rfl | rfl
      · simp only [if_true] at lW oW tW ⊢
        (try simp (config := { maxSteps := 10000000 }) only [go_sem, seval, at', d0, ll, lo, tW]; repeat (simp (disch := omega) only [w64_d, ipos, ineg, dpos, dneg]; try simp (config := { maxSteps := 10000000 }) only [go_sem, seval, at', d0, ll, lo, tW]))
        exact subH_app _ _
      · simp only [if_true, if_false, Nat.one_ne_zero] at lW oW tW ⊢
        (try simp (config := { maxSteps := 10000000 }) only [go_sem, seval, at', d0, ll, lo, m2, ws, lW, oW, tW, Int.toNat_natCast]; repeat (simp (disch := omega) only [w64_d, ipos, ineg, dpos, dneg]; try simp (config := { maxSteps := 10000000 }) only [go_sem, seval, at', d0, ll, lo, m2, ws, lW, oW, tW, Int.toNat_natCast]))
        exact subH_app _ _
      · simp only [Nat.reduceEqDiff, if_true, if_false, ckPut, ckV] at lW oW tW ⊢
        (try simp (config := { maxSteps := 10000000 }) only [go_sem, seval, at', d0, ll, lo, dc, s_rwith15_eq, wc, lW, oW, tW, Int.toNat_natCast]; repeat (simp (disch := omega) only [w64_d, ipos, ineg, dpos, dneg]; try simp (config := { maxSteps := 10000000 }) only [go_sem, seval, at', d0, ll, lo, dc, s_rwith15_eq, wc, lW, oW, tW, Int.toNat_natCast]))
        exact subH_app _ _
      · simp only [Nat.reduceEqDiff, if_true, if_false, ckPut, ckV] at lW oW tW ⊢
        (try simp (config := { maxSteps := 10000000 }) only [go_sem, seval, at', d0, d1, ll, lo, s_rwith15_eq, w1, lW, oW, tW, Int.toNat_natCast]; repeat (simp (disch := omega) only [w64_d, ipos, ineg, dpos, dneg]; try simp (config := { maxSteps := 10000000 }) only [go_sem, seval, at', d0, d1, ll, lo, s_rwith15_eq, w1, lW, oW, tW, Int.toNat_natCast]))
        exact subH_app _ _
    · intro c' off' sz' w' hc' he
      simp only [List.cons.injEq, AV.g.injEq, AV.c.injEq, Sc.u.injEq, Sc.i.injEq, and_true] at he
      obtain ⟨e1, rfl, rfl, rfl⟩ := he
      obtain rfl := ckC_inj hc.ok hc'.ok e1
      rfl
  obtain ⟨v, h1, h2⟩ := this
  rw [h1, h2 c off sz w hc rfl]
def q_r15t (args : List AV) (H : AH) (v : AV) : Prop := ∀ c n, CkI c → args = [.g (ckC c), .c (.i n)] → v = .g (ckC (ckT c n))
def s_r15t : List AV → AH → Option AV := frQ Try.prog [] 52 q_r15t
set_option maxRecDepth 100000 in
set_option maxHeartbeats 2000000 in
theorem ok_r15t : FpOk Try.prog 52 (fun args H => (s_r15t args H).map fun v => (v, H)) := frQ_ok hmix TabOk.nil Try.func52 rfl Try.results52 Try.ntmps52 (by kernel_rfl) (by kernel_rfl)
theorem s_r15t_eq (hc : CkI c) (n : Int) : s_r15t [.g (ckC c), .c (.i n)] H = some (.g (ckC (ckT c n))) := by
  have : ∃ v, s_r15t [.g (ckC c), .c (.i n)] H = some v ∧ q_r15t [.g (ckC c), .c (.i n)] H v := by
    have okW := ckT_ok hc.ok n
    unfold s_r15t
    apply frQ_ex (v := .g (ckC (ckT c n))) Try.func52 rfl Try.results52 Try.ntmps52 (by simp only [List.length_cons, List.length_nil]; decide)
    · intro _ _
      exact ckC_bel _ _
    · intro _ _
      have ll := ckC_l hc.ok
      have lo := ckC_one c
      have d0 := ck_0 c
      have d1 := ck_1 c
      have n0 : 0 < c.n := by have := hc.n0; omega
      have lW := ckC_l okW
      have oW := ckC_one (ckT c n)
      have tW : List.take 18 (ckC (ckT c n)) = ckC (ckT c n) := List.take_of_length_le (by omega)
      have w1 := fun v => wr_td (ckw_1 c v)
      by_cases h : 0 < n
      · have e : ckT c n = { c with t := c.t + BitVec.ofInt 64 n } := if_pos ⟨h, n0⟩
        rw [e] at lW oW tW ⊢
        (try simp (config := { maxSteps := 10000000 }) only [go_sem, seval, d0, d1, ll, lo, n0, h, w1, lW, oW, tW]; repeat (simp (disch := omega) only [w64_d, ipos, ineg, dpos, dneg]; try simp (config := { maxSteps := 10000000 }) only [go_sem, seval, d0, d1, ll, lo, n0, h, w1, lW, oW, tW]))
        exact subH_app _ _
      · have e : ckT c n = c := if_neg (fun x => h x.1)
        rw [e] at lW oW tW ⊢
        (try simp (config := { maxSteps := 10000000 }) only [go_sem, seval, d0, d1, ll, lo, n0, h, tW]; repeat (simp (disch := omega) only [w64_d, ipos, ineg, dpos, dneg]; try simp (config := { maxSteps := 10000000 }) only [go_sem, seval, d0, d1, ll, lo, n0, h, tW]))
        exact subH_app _ _
    · intro c' n' hc' he
      simp only [List.cons.injEq, AV.g.injEq, AV.c.injEq, Sc.u.injEq, Sc.i.injEq, and_true] at he
      obtain ⟨e1, rfl⟩ := he
      obtain rfl := ckC_inj hc.ok hc'.ok e1
      rfl
  obtain ⟨v, h1, h2⟩ := this
  rw [h1, h2 c n hc rfl]
def q_r15l (args : List AV) (H : AH) (v : AV) : Prop := ∀ c n, CkI c → args = [.g (ckC c), .c (.i n)] → v = .c (.u (ckL c n))
def s_r15l : List AV → AH → Option AV := frQ Try.prog [] 81 q_r15l
set_option maxRecDepth 100000 in
set_option maxHeartbeats 2000000 in
theorem ok_r15l : FpOk Try.prog 81 (fun args H => (s_r15l args H).map fun v => (v, H)) := frQ_ok hmix TabOk.nil Try.func81 rfl Try.results81 Try.ntmps81 (by kernel_rfl) (by kernel_rfl)
theorem s_r15l_eq (hc : CkI c) (n : Int) : s_r15l [.g (ckC c), .c (.i n)] H = some (.c (.u (ckL c n))) := by
  have : ∃ v, s_r15l [.g (ckC c), .c (.i n)] H = some v ∧ q_r15l [.g (ckC c), .c (.i n)] H v := by
    unfold s_r15l
    apply frQ_ex (v := .c (.u (ckL c n))) Try.func81 rfl Try.results81 Try.ntmps81 (by simp only [List.length_cons, List.length_nil]; decide)
    · exact fun _ _ => rfl
    · intro _ _
      have ll := ckC_l hc.ok
      have lo := ckC_one c
      have d0 := ck_0 c
      have d1 := ck_1 c
      have n8 := hc.ok.n1
      by_cases h0 : n < 0
      · have e : ckL c n = 0#64 := if_pos (.inl h0)
        rw [e]
        (try simp (config := { maxSteps := 10000000 }) only [go_sem, seval, d0, ll, lo, h0]; repeat (simp (disch := omega) only [w64_d, ipos, ineg, dpos, dneg]; try simp (config := { maxSteps := 10000000 }) only [go_sem, seval, d0, ll, lo, h0]))
        exact subH_app _ _
      by_cases h1 : c.n ≤ n
      · have e : ckL c n = 0#64 := if_pos (.inr h1)
        rw [e]
        (try simp (config := { maxSteps := 10000000 }) only [go_sem, seval, d0, ll, lo, h0, h1]; repeat (simp (disch := omega) only [w64_d, ipos, ineg, dpos, dneg]; try simp (config := { maxSteps := 10000000 }) only [go_sem, seval, d0, ll, lo, h0, h1]))
        exact subH_app _ _
      obtain ⟨k, rfl⟩ : ∃ k : Nat, n = (k : Int) := ⟨n.toNat, by omega⟩
      have hk : k < 8 := by omega
      have dc := ck_c hc.ok hk
      have ds := ck_s hc.ok hk
      have e : ckL c (k : Int) = (if c.s.getD k false = true then 8#64 else 0#64) ||| (if c.c.getD k 0#64 ≤ c.t then 128#64 else 0#64) := by unfold ckL; rw [if_neg (by omega), Int.toNat_natCast]
      rw [e]
      rcases hs : c.s.getD k false with _ | _ <;> rcases Classical.propComplete (c.c.getD k 0#64 ≤ c.t) with ht | ht
      all_goals rw [hs] at ds
      all_goals (try simp (config := { maxSteps := 10000000 }) only [go_sem, seval, d0, d1, ll, lo, dc, ds, ht, h0, h1, if_true, if_false, Bool.false_eq_true, Int.toNat_natCast]; repeat (simp (disch := omega) only [w64_d, ipos, ineg, dpos, dneg]; try simp (config := { maxSteps := 10000000 }) only [go_sem, seval, d0, d1, ll, lo, dc, ds, ht, h0, h1, if_true, if_false, Bool.false_eq_true, Int.toNat_natCast]))
      all_goals exact subH_app _ _
    · intro c' n' hc' he
      simp only [List.cons.injEq, AV.g.injEq, AV.c.injEq, Sc.u.injEq, Sc.i.injEq, and_true] at he
      obtain ⟨e1, rfl⟩ := he
      obtain rfl := ckC_inj hc.ok hc'.ok e1
      rfl
  obtain ⟨v, h1, h2⟩ := this
  rw [h1, h2 c n hc rfl]
end

/-! ## XBp2 -/
section
/-! ### a row of bits -/
def rbF (f : Nat → Bool) : List Sc := (List.range 32).map fun i => .b (f i)
theorem rbF_l (f : Nat → Bool) : (rbF f).length = 32 := by simp [rbF]
theorem rb_F (w : BitVec 32) : rb32 w = rbF w.getLsbD := rfl
theorem rbF_get {f : Nat → Bool} {i : Nat} (hi : i < 32) : (rbF f).getD i .any = .b (f i) := by
  simp [rbF, List.getD_eq_getElem?_getD, List.getElem?_map, List.getElem?_range hi]
theorem rbF_ext {f g : Nat → Bool} (h : ∀ i, i < 32 → f i = g i) : rbF f = rbF g := by
  unfold rbF
  refine List.map_congr_left fun i hi => ?_
  rw [h i (List.mem_range.1 hi)]
theorem rbF_wr {f : Nat → Bool} {i : Nat} (hi : i < 32) (v : Bool) : wr (rbF f) i [.b v] = rbF fun j => if j = i then v else f j := by
  rw [wr_one (by rw [rbF_l]; exact hi)]
  refine List.ext_getElem? fun j => ?_
  rw [List.getElem?_set]
  unfold rbF
  simp only [List.getElem?_map, List.length_map, List.length_range]
  rcases Nat.lt_or_ge j 32 with hj | hj
  · rw [List.getElem?_range hj]
    by_cases e : i = j
    · subst e; simp [hj]
    · simp [e, Ne.symm e]
  · rw [List.getElem?_eq_none (l := List.range 32) (by simp; exact hj)]
    rw [if_neg (by omega)]
    rfl
theorem rbF_inj {f g : Nat → Bool} (h : rbF f = rbF g) : ∀ i, i < 32 → f i = g i := fun i hi => by
  have := congrArg (fun l => l.getD i .any) h
  simp only [rbF_get hi, Sc.b.injEq] at this
  exact this
theorem rb32_inj {u w : BitVec 32} (h : rb32 u = rb32 w) : u = w := BitVec.eq_of_getLsbD_eq fun i hi => rbF_inj h i hi
theorem bitK_get {s j : Nat} (hj : j < 32) (hs : s < 32) : (bitK s).getLsbD j = decide (j = s) := by
  unfold bitK
  rw [BitVec.getLsbD_shiftLeft, BitVec.getLsbD_one]
  by_cases e : j = s
  · subst e; simp [hj]
  · simp [e, hj]; omega
/-! ### the pieces -/
section
variable {k : Pk}
def rpA1 (k : Pk) : List Sc := .i k.n :: k.p.map Sc.i
def rpA2 (k : Pk) : List Sc := .i k.n :: (k.p.map Sc.i ++ rb32 k.w)
def rpA3 (k : Pk) : List Sc := .i k.n :: (k.p.map Sc.i ++ (rb32 k.w ++ rb32 k.q))
def rpA4 (k : Pk) : List Sc := .i k.n :: (k.p.map Sc.i ++ (rb32 k.w ++ (rb32 k.q ++ rb32 k.s)))
def rpA5 (k : Pk) : List Sc := .i k.n :: (k.p.map Sc.i ++ (rb32 k.w ++ (rb32 k.q ++ (rb32 k.s ++ k.e.flatMap rb32))))
theorem rpA1_l (h : PkOk k) : (rpA1 k).length = 33 := by simp [rpA1, h.p]
theorem rpA2_l (h : PkOk k) : (rpA2 k).length = 65 := by simp [rpA2, h.p, rb32_l]
theorem rpA3_l (h : PkOk k) : (rpA3 k).length = 97 := by simp [rpA3, h.p, rb32_l]
theorem rpA4_l (h : PkOk k) : (rpA4 k).length = 129 := by simp [rpA4, h.p, rb32_l]
theorem rpE_l (h : PkOk k) : (k.e.flatMap rb32).length = 512 := by rw [fm_len rb32_l, h.e]
theorem rpA5_l (h : PkOk k) : (rpA5 k).length = 641 := by simp [rpA5, h.p, rb32_l, rpE_l h]
theorem rp_e0 (k : Pk) : rpk k = [.i k.n] ++ (k.p.map Sc.i ++ (rb32 k.w ++ (rb32 k.q ++ (rb32 k.s ++ (k.e.flatMap rb32 ++ k.l.map Sc.i))))) := rfl
theorem rp_e1 (k : Pk) : rpk k = rpA1 k ++ (rb32 k.w ++ (rb32 k.q ++ (rb32 k.s ++ (k.e.flatMap rb32 ++ k.l.map Sc.i)))) := by simp [rpk, rpT, rpA1]
theorem rp_e2 (k : Pk) : rpk k = rpA2 k ++ (rb32 k.q ++ (rb32 k.s ++ (k.e.flatMap rb32 ++ k.l.map Sc.i))) := by simp [rpk, rpT, rpA2]
theorem rp_e3 (k : Pk) : rpk k = rpA3 k ++ (rb32 k.s ++ (k.e.flatMap rb32 ++ k.l.map Sc.i)) := by simp [rpk, rpT, rpA3]
theorem rp_e4 (k : Pk) : rpk k = rpA4 k ++ (k.e.flatMap rb32 ++ k.l.map Sc.i) := by simp [rpk, rpT, rpA4]
theorem rp_e5 (k : Pk) : rpk k = rpA5 k ++ (k.l.map Sc.i ++ []) := by simp [rpk, rpT, rpA5]
theorem rpk_l (h : PkOk k) : (rpk k).length = 657 := by simp only [rpk, List.length_cons, rpT_l h]
theorem rpk_one (k : Pk) : (rpk k).all Sc.one = true := by simp only [rpk, List.all_cons, rpT_one]; rfl
theorem rpk_bel (k : Pk) (n : Nat) : (rpk k).all (Sc.bel n) = true := by
  simp only [rpk, List.all_cons]
  rw [rpT_all (fun _ => rfl) (fun _ => rfl)]; rfl
theorem mapI_get {l : List Int} {i : Nat} (h : i < l.length) : (l.map Sc.i).getD i .any = .i (l.getD i 0) := by
  rw [List.getD_eq_getElem?_getD, List.getElem?_map, List.getElem?_eq_getElem h]
  simp [List.getD_eq_getElem?_getD, List.getElem?_eq_getElem h]
theorem mapI_wr {l : List Int} {i : Nat} (h : i < l.length) (v : Int) : wr (l.map Sc.i) i [.i v] = (l.set i v).map Sc.i := by
  rw [wr_one (by simpa using h), ← List.map_set]
theorem rp_n (k : Pk) : (rpk k).getD 0 .any = .i k.n := rfl
theorem rp_p (h : PkOk k) {i : Nat} (hi : i < 32) : (rpk k).getD (1 + i) .any = .i (k.p.getD i 0) := by
  rw [rp_e0]
  exact (getD_mid (A := [.i k.n]) (by simp [h.p, hi])).trans (mapI_get (by rw [h.p]; exact hi))
theorem rp_w (h : PkOk k) {i : Nat} (hi : i < 32) : (rpk k).getD (33 + i) .any = .b (k.w.getLsbD i) := by
  rw [rp_e1, ← rpA1_l h, getD_mid (by rw [rb32_l]; exact hi), rb_F, rbF_get hi]
theorem rp_q (h : PkOk k) {i : Nat} (hi : i < 32) : (rpk k).getD (65 + i) .any = .b (k.q.getLsbD i) := by
  rw [rp_e2, ← rpA2_l h, getD_mid (by rw [rb32_l]; exact hi), rb_F, rbF_get hi]
theorem rp_s (h : PkOk k) {i : Nat} (hi : i < 32) : (rpk k).getD (97 + i) .any = .b (k.s.getLsbD i) := by
  rw [rp_e3, ← rpA3_l h, getD_mid (by rw [rb32_l]; exact hi), rb_F, rbF_get hi]
theorem rp_l (h : PkOk k) {i : Nat} (hi : i < 16) : (rpk k).getD (641 + i) .any = .i (k.l.getD i 0) := by
  rw [rp_e5, ← rpA5_l h, getD_mid (by simp [h.l, hi]), mapI_get (by rw [h.l]; exact hi)]
theorem e_at (h : PkOk k) {c : Nat} (hc : c < 16) : k.e[c]? = some (k.e.getD c 0#32) := by
  have : c < k.e.length := by rw [h.e]; exact hc
  rw [List.getElem?_eq_getElem this, List.getD_eq_getElem?_getD, List.getElem?_eq_getElem this]; rfl
theorem rp_e (h : PkOk k) {c i : Nat} (hc : c < 16) (hi : i < 32) : (rpk k).getD (129 + (c * 32 + i)) .any = .b ((k.e.getD c 0#32).getLsbD i) := by
  rw [rp_e4, ← rpA4_l h, getD_mid (by rw [rpE_l h]; omega), fm_cell rb32_l (e_at h hc) hi, rb_F, rbF_get hi]
/-- the rows around one of them -/
theorem rp_row (h : PkOk k) {c : Nat} (hc : c < 16) : ∃ P Q, P.length = 129 + c * 32 ∧ ∀ w, rpk { k with e := k.e.set c w } = P ++ (rb32 w ++ Q) := by
  obtain ⟨P, Q, _, h2, h3⟩ := fm_split rb32_l (e_at h hc)
  refine ⟨rpA4 k ++ P, Q ++ k.l.map Sc.i, by rw [List.length_append, rpA4_l h, h2], fun w => ?_⟩
  rw [rp_e4]
  show rpA4 k ++ ((k.e.set c w).flatMap rb32 ++ _) = _
  rw [h3]
  simp
theorem rp_rowself {c : Nat} : ({ k with e := k.e.set c (k.e.getD c 0#32) } : Pk) = k := by
  have : k.e.set c (k.e.getD c 0#32) = k.e := by
    refine List.ext_getElem? fun j => ?_
    rw [List.getElem?_set]
    by_cases e : c = j
    · subst e
      rw [if_pos rfl]
      split
      · rename_i hl
        rw [List.getD_eq_getElem?_getD, List.getElem?_eq_getElem hl]; rfl
      · rename_i hl
        rw [List.getElem?_eq_none (by omega)]
    · rw [if_neg e]
  rw [this]
theorem wp_p (h : PkOk k) {i : Nat} (hi : i < 32) (v : Int) : wr (rpk k) (1 + i) [.i v] = rpk { k with p := k.p.set i v } := by
  rw [rp_e0]
  refine (wr_mid (A := [.i k.n]) (by simp [h.p]; omega)).trans ?_
  rw [mapI_wr (by rw [h.p]; exact hi)]; rfl
theorem wp_l (h : PkOk k) {i : Nat} (hi : i < 16) (v : Int) : wr (rpk k) (641 + i) [.i v] = rpk { k with l := k.l.set i v } := by
  rw [rp_e5, ← rpA5_l h, wr_mid (by simp [h.l]; omega), mapI_wr (by rw [h.l]; exact hi), rp_e5]; rfl
theorem wp_w (h : PkOk k) {i : Nat} (hi : i < 32) {v : Bool} {w : BitVec 32} (hw : ∀ j, j < 32 → (if j = i then v else k.w.getLsbD j) = w.getLsbD j) : wr (rpk k) (33 + i) [.b v] = rpk { k with w := w } := by
  rw [rp_e1, ← rpA1_l h, wr_mid (by rw [rb32_l]; simp; omega), rb_F, rbF_wr hi, rbF_ext hw, rp_e1]; rfl
theorem wp_q (h : PkOk k) {i : Nat} (hi : i < 32) {v : Bool} {w : BitVec 32} (hw : ∀ j, j < 32 → (if j = i then v else k.q.getLsbD j) = w.getLsbD j) : wr (rpk k) (65 + i) [.b v] = rpk { k with q := w } := by
  rw [rp_e2, ← rpA2_l h, wr_mid (by rw [rb32_l]; simp; omega), rb_F, rbF_wr hi, rbF_ext hw, rp_e2]; rfl
theorem wp_s (h : PkOk k) {i : Nat} (hi : i < 32) {v : Bool} {w : BitVec 32} (hw : ∀ j, j < 32 → (if j = i then v else k.s.getLsbD j) = w.getLsbD j) : wr (rpk k) (97 + i) [.b v] = rpk { k with s := w } := by
  rw [rp_e3, ← rpA3_l h, wr_mid (by rw [rb32_l]; simp; omega), rb_F, rbF_wr hi, rbF_ext hw, rp_e3]; rfl
end
theorem map_i_inj {a b : List Int} (h : a.map Sc.i = b.map Sc.i) : a = b := map_inj (fun _ _ h => Sc.i.inj h) h
theorem fm_inj : ∀ {a b : List (BitVec 32)}, a.flatMap rb32 = b.flatMap rb32 → a = b
  | [], [], _ => rfl
  | [], w :: b, h => by
    have := congrArg List.length h
    rw [fm_len rb32_l, fm_len rb32_l] at this
    simp only [List.length_cons, List.length_nil] at this
    omega
  | w :: a, [], h => by
    have := congrArg List.length h
    rw [fm_len rb32_l, fm_len rb32_l] at this
    simp only [List.length_cons, List.length_nil] at this
    omega
  | w :: a, u :: b, h => by
    simp only [List.flatMap_cons] at h
    obtain ⟨h1, h2⟩ := List.append_inj h (by rw [rb32_l, rb32_l])
    rw [rb32_inj h1, fm_inj h2]
theorem rpk_inj {a b : Pk} (ha : PkOk a) (hb : PkOk b) (h : rpk a = rpk b) : a = b := by
  simp only [rpk, rpT, List.cons.injEq, Sc.i.injEq] at h
  obtain ⟨h1, h2⟩ := h
  obtain ⟨h3, h4⟩ := List.append_inj h2 (by simp [ha.p, hb.p])
  obtain ⟨h5, h6⟩ := List.append_inj h4 (by rw [rb32_l, rb32_l])
  obtain ⟨h7, h8⟩ := List.append_inj h6 (by rw [rb32_l, rb32_l])
  obtain ⟨h9, h10⟩ := List.append_inj h8 (by rw [rb32_l, rb32_l])
  obtain ⟨h11, h12⟩ := List.append_inj h10 (by rw [rpE_l ha, rpE_l hb])
  have g3 := map_i_inj h3
  have g5 := rb32_inj h5
  have g7 := rb32_inj h7
  have g9 := rb32_inj h9
  have g11 := fm_inj h11
  have g12 := map_i_inj h12
  clear h2 h3 h4 h5 h6 h7 h8 h9 h10 h11 h12 ha hb
  cases a; cases b
  simp only at h1 g3 g5 g7 g9 g11 g12
  subst h1 g3 g5 g7 g9 g11 g12
  rfl
/-- what a controller always is -/
structure PkI (k : Pk) : Prop where
  ok : PkOk k
  n0 : 1 ≤ k.n
  st : ∀ j, j < 32 → k.w.getLsbD j = true → k.s.getLsbD j = false → k.q.getLsbD j = true
  e0 : ∀ c, (k.e.getD c 0#32).getLsbD 0 = false
end

/-! ## XBp3 -/
section
/-! ### the best, from above -/
def dstN (p : List Int) (am : BitVec 32) (ab : Int) : Nat → Nat
  | 0 => 0
  | t + 1 => if (eliB p am ab (31 - t) && (decide (dstN p am ab t = 0) || decide (p.getD (dstN p am ab t) 0 ≤ p.getD (31 - t) 0))) = true then 31 - t else dstN p am ab t
def BstP (p : List Int) (am : BitVec 32) (ab : Int) (S : Nat → Prop) (b : Nat) : Prop :=
  (b = 0 ∧ ∀ i, S i → eliB p am ab i = false) ∨ (S b ∧ 1 ≤ b ∧ eliB p am ab b = true ∧ ∀ i, S i → eliB p am ab i = true → p.getD i 0 ≤ p.getD b 0 ∧ (p.getD i 0 = p.getD b 0 → b ≤ i))
theorem bstN_P {p : List Int} {am : BitVec 32} {ab : Int} : ∀ n, BstP p am ab (fun i => 1 ≤ i ∧ i ≤ n) (bstN p am ab n)
  | 0 => .inl ⟨rfl, fun i h => by omega⟩
  | n + 1 => by
    have ih := bstN_P (p := p) (am := am) (ab := ab) n
    unfold bstN
    generalize bstN p am ab n = b at *
    cases he : eliB p am ab (n + 1)
    · simp only [Bool.false_and, Bool.false_eq_true, if_false]
      rcases ih with ⟨h1, h2⟩ | ⟨h1, h2, h3, h4⟩
      · refine .inl ⟨h1, fun i hi => ?_⟩
        by_cases e : i = n + 1
        · rw [e, he]
        · exact h2 i (by omega)
      · refine .inr ⟨by omega, h2, h3, fun i hi hq => ?_⟩
        by_cases e : i = n + 1
        · rw [e, he] at hq; simp at hq
        · exact h4 i (by omega) hq
    · simp only [Bool.true_and]
      rcases ih with ⟨h1, h2⟩ | ⟨h1, h2, h3, h4⟩
      · subst h1
        simp only [decide_true, Bool.true_or, if_true]
        refine .inr ⟨by omega, by omega, he, fun i hi hq => ?_⟩
        by_cases e : i = n + 1
        · subst e; exact ⟨Int.le_refl _, fun _ => Nat.le_refl _⟩
        · rw [h2 i (by omega)] at hq; simp at hq
      · by_cases hp : p.getD b 0 < p.getD (n + 1) 0
        · rw [if_pos (by rw [decide_eq_true hp, Bool.or_true])]
          refine .inr ⟨by omega, by omega, he, fun i hi hq => ?_⟩
          by_cases e : i = n + 1
          · subst e; exact ⟨Int.le_refl _, fun _ => Nat.le_refl _⟩
          · have := h4 i (by omega) hq
            exact ⟨by omega, fun x => by omega⟩
        · rw [if_neg (by rw [decide_eq_false hp, Bool.or_false, decide_eq_false (by omega)]; decide)]
          refine .inr ⟨by omega, h2, h3, fun i hi hq => ?_⟩
          by_cases e : i = n + 1
          · subst e; exact ⟨by omega, fun x => by omega⟩
          · exact h4 i (by omega) hq
theorem dstN_P {p : List Int} {am : BitVec 32} {ab : Int} : ∀ t, t ≤ 31 → BstP p am ab (fun i => 32 - t ≤ i ∧ i ≤ 31) (dstN p am ab t)
  | 0, _ => .inl ⟨rfl, fun i h => by omega⟩
  | t + 1, ht => by
    have ih := dstN_P (p := p) (am := am) (ab := ab) t (by omega)
    unfold dstN
    generalize dstN p am ab t = b at *
    cases he : eliB p am ab (31 - t)
    · simp only [Bool.false_and, Bool.false_eq_true, if_false]
      rcases ih with ⟨h1, h2⟩ | ⟨h1, h2, h3, h4⟩
      · refine .inl ⟨h1, fun i hi => ?_⟩
        by_cases e : i = 31 - t
        · rw [e, he]
        · exact h2 i (by omega)
      · refine .inr ⟨by omega, h2, h3, fun i hi hq => ?_⟩
        by_cases e : i = 31 - t
        · rw [e, he] at hq; simp at hq
        · exact h4 i (by omega) hq
    · simp only [Bool.true_and]
      rcases ih with ⟨h1, h2⟩ | ⟨h1, h2, h3, h4⟩
      · subst h1
        simp only [decide_true, Bool.true_or, if_true]
        refine .inr ⟨by omega, by omega, he, fun i hi hq => ?_⟩
        by_cases e : i = 31 - t
        · subst e; exact ⟨Int.le_refl _, fun _ => Nat.le_refl _⟩
        · rw [h2 i (by omega)] at hq; simp at hq
      · by_cases hp : p.getD b 0 ≤ p.getD (31 - t) 0
        · rw [if_pos (by rw [decide_eq_true hp, Bool.or_true])]
          refine .inr ⟨by omega, by omega, he, fun i hi hq => ?_⟩
          by_cases e : i = 31 - t
          · subst e; exact ⟨Int.le_refl _, fun _ => Nat.le_refl _⟩
          · have := h4 i (by omega) hq
            exact ⟨by omega, fun x => by omega⟩
        · rw [if_neg (by rw [decide_eq_false hp, Bool.or_false, decide_eq_false (by omega)]; decide)]
          refine .inr ⟨by omega, h2, h3, fun i hi hq => ?_⟩
          by_cases e : i = 31 - t
          · subst e; exact ⟨by omega, fun x => by omega⟩
          · exact h4 i (by omega) hq
theorem BstP.uniq {p : List Int} {am : BitVec 32} {ab : Int} {S T : Nat → Prop} {a b : Nat} (hST : ∀ i, S i ↔ T i) (ha : BstP p am ab S a) (hb : BstP p am ab T b) : a = b := by
  rcases ha with ⟨a1, a2⟩ | ⟨a1, a2, a3, a4⟩ <;> rcases hb with ⟨b1, b2⟩ | ⟨b1, b2, b3, b4⟩
  · omega
  · rw [a2 b ((hST b).2 b1)] at b3; simp at b3
  · rw [b2 a ((hST a).1 a1)] at a3; simp at a3
  · have x := a4 b ((hST b).2 b1) b3
    have y := b4 a ((hST a).1 a1) a3
    have := x.2 (by omega)
    have := y.2 (by omega)
    omega
theorem dst_bst {p : List Int} {am : BitVec 32} {ab : Int} : dstN p am ab 31 = bstN p am ab 31 := BstP.uniq (fun i => by show (1 ≤ i ∧ i ≤ 31) ↔ _; exact Iff.rfl) (dstN_P 31 (Nat.le_refl _)) (bstN_P 31)
theorem dstN_le {p : List Int} {am : BitVec 32} {ab : Int} : ∀ t, dstN p am ab t ≤ 31
  | 0 => by show 0 ≤ 31; omega
  | t + 1 => by
    have := dstN_le (p := p) (am := am) (ab := ab) t
    unfold dstN
    split <;> omega
theorem eli_bit {am : BitVec 32} {i : Nat} : decide (am >>> i &&& 1#32 = 1#32) = am.getLsbD i := by
  have : am >>> i &&& 1#32 = if am.getLsbD i = true then 1#32 else 0#32 := by
    refine BitVec.eq_of_getLsbD_eq fun j hj => ?_
    rw [BitVec.getLsbD_and, BitVec.getLsbD_ushiftRight, BitVec.getLsbD_one]
    by_cases e : j = 0
    · subst e
      cases h : am.getLsbD i <;> simp [h]
    · have : (decide (0 < 32) && decide (0 = j)) = false := by simp; omega
      cases h : am.getLsbD i
      · simp [e]; try omega
      · simp [BitVec.getLsbD_one]; try omega
  rw [this]
  cases am.getLsbD i <;> rfl
variable {H : AH} {k : Pk}
def q_r16b (args : List AV) (H : AH) (v : AV) : Prop := ∀ k (c : Nat) ab, PkOk k → c < 16 → args = [.g (rpk k), .c (.i (c : Int)), .c (.i ab)] → v = .c (.i ((bstN k.p (k.q &&& k.e.getD c 0#32) ab 31 : Nat) : Int))
def s_r16b : List AV → AH → Option AV := frQ Try.prog [] 77 q_r16b
set_option maxRecDepth 100000 in
set_option maxHeartbeats 2000000 in
theorem ok_r16b : FpOk Try.prog 77 (fun args H => (s_r16b args H).map fun v => (v, H)) := frQ_ok hmix TabOk.nil Try.func77 rfl Try.results77 Try.ntmps77 (by kernel_rfl) (by kernel_rfl)
theorem s_r16b_eq (hk : PkOk k) {c : Nat} (hc : c < 16) (ab : Int) : s_r16b [.g (rpk k), .c (.i (c : Int)), .c (.i ab)] H = some (.c (.i ((bstN k.p (k.q &&& k.e.getD c 0#32) ab 31 : Nat) : Int))) := by
  have : ∃ v, s_r16b [.g (rpk k), .c (.i (c : Int)), .c (.i ab)] H = some v ∧ q_r16b [.g (rpk k), .c (.i (c : Int)), .c (.i ab)] H v := by
    unfold s_r16b
    apply frQ_ex (v := .c (.i ((bstN k.p (k.q &&& k.e.getD c 0#32) ab 31 : Nat) : Int))) Try.func77 rfl Try.results77 Try.ntmps77 (by simp only [List.length_cons, List.length_nil]; decide)
    · exact fun _ _ => rfl
    · intro _ hH
      rw [← dst_bst]
      obtain ⟨am, ham⟩ : ∃ am, k.q &&& k.e.getD c 0#32 = am := ⟨_, rfl⟩
      rw [ham]
      have ll := rpk_l hk
      have lo := rpk_one k
      have tt : List.take 657 (rpk k) = rpk k := List.take_of_length_le (by omega)
      have bb : belH (H ++ [.own (rpk k)]) = true := belH_app hH (by simp only [List.mem_singleton, forall_eq]; exact rpk_bel _ _)
      (try simp (config := { maxSteps := 10000000 }) only [go_sem, seval, ll, lo, tt]; repeat (simp (disch := omega) only [w64_d, ipos, ineg, dpos, dneg]; try simp (config := { maxSteps := 10000000 }) only [go_sem, seval, ll, lo, tt]))
      refine arun_for 31 (fun t => ([(1, .c (.i c)), (2, .c (.i ab)), (3, .c (.p H.length 0 0)), (7, .c (.i (dstN k.p am ab t : Nat))), (8, .c (.i (31 - (t : Int))))], H ++ [.own (rpk k)])) (Wk.fq (by simp [Am.get, dstN])) fun t ht => ?_
      by_cases hlt : t < 31
      · have e0 : 1 ≤ 31 - (t : Int) := by omega
        have e1 : w64 (31 - (t : Int) - 1) = 31 - ((t + 1 : Nat) : Int) := by rw [w64_d (by omega) (by omega)]; omega
        have e2 : (31 - (t : Int)).toNat = 31 - t := by omega
        have g1 : (0 : Int) ≤ 31 - (t : Int) := by omega
        have g2 : 31 - (t : Int) < 32 := by omega
        have hi : 31 - t < 32 := by omega
        have dp := rp_p hk hi
        have dq := rp_q hk hi
        have de : (rpk k).getD (129 + c * 32 + (31 - t)) .any = .b ((k.e.getD c 0#32).getLsbD (31 - t)) := by rw [Nat.add_assoc]; exact rp_e hk hc hi
        have hB := dstN_le (p := k.p) (am := am) (ab := ab) t
        have dB := rp_p hk (i := dstN k.p am ab t) (by omega)
        have eS : dstN k.p am ab (t + 1) = if (eliB k.p am ab (31 - t) && (decide (dstN k.p am ab t = 0) || decide (k.p.getD (dstN k.p am ab t) 0 ≤ k.p.getD (31 - t) 0))) = true then 31 - t else dstN k.p am ab t := rfl
        unfold eliB at eS
        rw [eli_bit, ← ham, BitVec.getLsbD_and, ham] at eS
        have cz : ((dstN k.p am ab t : Nat) : Int) = 0 ↔ dstN k.p am ab t = 0 := by omega
        have ei : (31 : Int) - (t : Int) = ((31 - t : Nat) : Int) := by omega
        generalize dstN k.p am ab t = B at *
        have cz' := propext cz
        cases hq : k.q.getLsbD (31 - t)
        · rw [hq] at dq eS
          simp only [Bool.false_and, Bool.false_eq_true, if_false] at eS
          (try simp (config := { maxSteps := 10000000 }) only [go_sem, seval, e0, e1, e2, g1, g2, ll, dq]; repeat (simp (disch := omega) only [w64_d, ipos, ineg, dpos, dneg]; try simp (config := { maxSteps := 10000000 }) only [go_sem, seval, e0, e1, e2, g1, g2, ll, dq]))
          exact ⟨t + 1, by omega, by omega, Wk.fq (by simp [Am.get, ei, eS])⟩
        rw [hq] at dq eS
        cases he : (k.e.getD c 0#32).getLsbD (31 - t)
        · rw [he] at de eS
          simp only [Bool.false_and, Bool.and_false, Bool.false_eq_true, if_false] at eS
          (try simp (config := { maxSteps := 10000000 }) only [go_sem, seval, e0, e1, e2, g1, g2, ll, dq, de, hc, Int.toNat_natCast]; repeat (simp (disch := omega) only [w64_d, ipos, ineg, dpos, dneg]; try simp (config := { maxSteps := 10000000 }) only [go_sem, seval, e0, e1, e2, g1, g2, ll, dq, de, hc, Int.toNat_natCast]))
          exact ⟨t + 1, by omega, by omega, Wk.fq (by simp [Am.get, ei, eS])⟩
        rw [he] at de eS
        rcases Classical.propComplete (ab < k.p.getD (31 - t) 0) with ha | ha
        · rcases Classical.propComplete (B = 0) with z | z
          · rw [z] at cz'
            simp only [ha, z, Bool.and_self, decide_true, Bool.true_or, if_true] at eS
            (try simp (config := { maxSteps := 10000000 }) only [go_sem, seval, e0, e1, e2, g1, g2, ll, dq, de, dp, hc, ha, cz', Int.toNat_natCast]; repeat (simp (disch := omega) only [w64_d, ipos, ineg, dpos, dneg]; try simp (config := { maxSteps := 10000000 }) only [go_sem, seval, e0, e1, e2, g1, g2, ll, dq, de, dp, hc, ha, cz', Int.toNat_natCast]))
            exact ⟨t + 1, by omega, by omega, Wk.fq (by simp [Am.get, ei, eS])⟩
          · rw [z] at cz'
            rcases Classical.propComplete (k.p.getD B 0 ≤ k.p.getD (31 - t) 0) with y | y
            all_goals simp only [ha, z, y, Bool.and_self, decide_true, decide_false, Bool.false_or, Bool.and_true, Bool.and_false, Bool.false_eq_true, if_true, if_false] at eS
            all_goals (try simp (config := { maxSteps := 10000000 }) only [go_sem, seval, e0, e1, e2, g1, g2, ll, dq, de, dp, dB, hc, ha, cz', y, Int.toNat_natCast]; repeat (simp (disch := omega) only [w64_d, ipos, ineg, dpos, dneg]; try simp (config := { maxSteps := 10000000 }) only [go_sem, seval, e0, e1, e2, g1, g2, ll, dq, de, dp, dB, hc, ha, cz', y, Int.toNat_natCast]))
            all_goals exact ⟨t + 1, by omega, by omega, Wk.fq (by simp [Am.get, ei, eS])⟩
        · simp only [ha, Bool.and_self, decide_false, Bool.and_false, Bool.false_and, Bool.false_eq_true, if_false] at eS
          (try simp (config := { maxSteps := 10000000 }) only [go_sem, seval, e0, e1, e2, g1, g2, ll, dq, de, dp, hc, ha, Int.toNat_natCast]; repeat (simp (disch := omega) only [w64_d, ipos, ineg, dpos, dneg]; try simp (config := { maxSteps := 10000000 }) only [go_sem, seval, e0, e1, e2, g1, g2, ll, dq, de, dp, hc, ha, Int.toNat_natCast]))
          exact ⟨t + 1, by omega, by omega, Wk.fq (by simp [Am.get, ei, eS])⟩
      · obtain rfl : t = 31 := by omega
        (try simp (config := { maxSteps := 10000000 }) only [go_sem, seval]; repeat (simp (disch := omega) only [w64_d, ipos, ineg, dpos, dneg]; try simp (config := { maxSteps := 10000000 }) only [go_sem, seval]))
        exact subH_app _ _
    · intro k' c' ab' hk' hc' he
      simp only [List.cons.injEq, AV.g.injEq, AV.c.injEq, Sc.i.injEq, and_true] at he
      obtain ⟨e1, e2, rfl⟩ := he
      obtain rfl := rpk_inj hk hk' e1
      obtain rfl : c = c' := by omega
      rfl
  obtain ⟨v, h1, h2⟩ := this
  rw [h1, h2 k c ab hk hc rfl]
end

end
end Go.Proofs.Ytfddaaplnnlfoaa
