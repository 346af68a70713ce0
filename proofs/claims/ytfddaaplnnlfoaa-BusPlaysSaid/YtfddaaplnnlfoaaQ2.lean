/- The clock of a bus: contracts. -/
import Derived.Test.YtfddaaplnnlfoaaQ1
namespace Go.Proofs.Ytfddaaplnnlfoaa
open Go.Am
set_option linter.unusedSimpArgs false
set_option linter.unusedVariables false
noncomputable section

noncomputable def ckQ (H : AH) (x : Sc) : Option Ck := atQ ckC CkOk H x
def ckS (H : AH) (x : Sc) (c : Ck) : AH := setAt ckC 18 H x c
structure CkIs (H : AH) (id o : Nat) (cs : List Sc) (c : Ck) (F : Ck → List Sc) : Prop where
  ok : CkOk c
  ho : hg H id = .own cs
  lid : id < H.length
  q : o + 18 ≤ cs.length
  d0 : cs.getD o .any = .i c.n
  d1 : cs.getD (o + 1) .any = .u c.t
  dc : ∀ k, k < 8 → cs.getD (o + 2 + k) .any = .u (c.c.getD k 0#64)
  ds : ∀ k, k < 8 → cs.getD (o + 10 + k) .any = .b (c.s.getD k false)
  w1 : ∀ v, wr cs (o + 1) [.u v] = F { c with t := v }
  wc : ∀ k, k < 8 → ∀ v, wr cs (o + 2 + k) [.u v] = F { c with c := c.c.set k v }
  ws : ∀ k, k < 8 → ∀ v, wr cs (o + 10 + k) [.b v] = F { c with s := c.s.set k v }
  set : ∀ d, ckS H (.p id o 0) d = H.set id (.own (F d))
  bel : ∀ d, belH H = true → belH (H.set id (.own (F d))) = true
  self : F c = cs
  enc : ∀ d, ∃ A B, o = A.length ∧ F d = A ++ (ckC d ++ B)
theorem ckQ_is {H : AH} {x : Sc} {c : Ck} (h : ckQ H x = some c) : ∃ id o cs F, x = .p id o 0 ∧ CkIs H id o cs c F := by
  obtain ⟨id, A, B, rfl, ho, ok⟩ := atQ_inv h
  have ll := ckC_l ok
  refine ⟨id, A.length, A ++ (ckC c ++ B), fun d => A ++ (ckC d ++ B), rfl, ok, ho, hg_lt (by rw [ho]; rfl), by simp only [List.length_append, ll]; omega, ?_, ?_, ?_, ?_, ?_, ?_, ?_, fun d => setAt_of ho ll, fun d hH => ?_, rfl, fun d => ⟨A, B, rfl, rfl⟩⟩
  · have := getD_mid (A := A) (M := ckC c) (B := B) (i := 0) (by omega); rw [Nat.add_zero] at this; exact this
  · exact getD_mid (A := A) (M := ckC c) (B := B) (i := 1) (by omega)
  · intro k hk
    rw [Nat.add_assoc, getD_mid (by omega), ck_c ok hk]
  · intro k hk
    rw [Nat.add_assoc, getD_mid (by omega), ck_s ok hk]
  · intro v
    rw [wr_mid (by rw [ll]; simp), ckw_1]
  · intro k hk v
    rw [Nat.add_assoc, wr_mid (by rw [ll]; simp; omega), ckw_c ok hk]
  · intro k hk v
    rw [Nat.add_assoc, wr_mid (by rw [ll]; simp; omega), ckw_s ok hk]
  · have := setAt_bel ho ll (ckC_bel d) hH
    rwa [setAt_of ho ll] at this
theorem ckQ_of {H : AH} {id : Nat} {A B : List Sc} {c : Ck} (ho : hg H id = .own (A ++ (ckC c ++ B))) (ok : CkOk c) : ckQ H (.p id A.length 0) = some c := atQ_of ck_enc ⟨id, A, B, rfl, ho, ok⟩
theorem CkIs.q' {H : AH} {id o : Nat} {cs : List Sc} {c : Ck} {F : Ck → List Sc} (h : CkIs H id o cs c F) {K : AH} (hk : hg K id = hg H id) : ckQ K (.p id o 0) = some c := by
  obtain ⟨A, B, e1, e2⟩ := h.enc c
  subst e1
  exact ckQ_of (by rw [hk, h.ho, ← h.self, e2]) h.ok
def ckP (x : Sc) (a : Ca) : Sc :=
  match x with
  | .p id o _ => if a.k = 3 then .p id (o + 1) 0 else if a.k = 2 then .p id (o + 2 + a.h) 0 else .nilp
  | _ => .nilp
theorem of_small {n : Int} (n0 : 0 ≤ n) (n1 : n ≤ 8) : (BitVec.ofInt 64 n).toNat = n.toNat := by rw [BitVec.toNat_ofInt]; omega
theorem ck_int {n : Int} (n0 : 0 ≤ n) (n1 : n ≤ 8) {a : BitVec 64} (l : a < BitVec.ofInt 64 n) : a.toInt = (a.toNat : Int) := by
  rw [BitVec.lt_def, of_small n0 n1] at l
  rw [BitVec.toInt_eq_toNat_cond, if_pos (by omega)]
theorem ck_idx {n : Int} (n0 : 0 ≤ n) (n1 : n ≤ 8) {a : BitVec 64} (g : 16384#64 ≤ a) (h : a < 16384#64 + 8#64 * BitVec.ofInt 64 n) : ((a - 16384#64) / 8#64).toNat < 8 := by
  rw [BitVec.lt_def, BitVec.toNat_add, BitVec.toNat_mul, of_small n0 n1] at h
  rw [BitVec.le_def] at g
  have e1 : (16384#64).toNat = 16384 := rfl
  have e2 : (8#64).toNat = 8 := rfl
  rw [e1, e2] at h
  rw [e1] at g
  rw [BitVec.toNat_udiv, BitVec.toNat_sub, e1, e2]
  omega
theorem ckP_bel {id o n : Nat} (a : Ca) (h : id < n) : Sc.bel n (ckP (.p id o 0) a) = true := by
  unfold ckP
  dsimp only
  split
  · simpa [Sc.bel] using h
  · split
    · simpa [Sc.bel] using h
    · rfl
noncomputable def s_cfind (args : List AV) (H : AH) : Option AV :=
  match args with
  | [.c x, .c (.u off), .c (.i sz)] => (ckQ H x).map fun c => .t [.g [.i (if (ckAt c.n off sz).k = 1 then ((ckAt c.n off sz).h : Int) else 0), ckP x (ckAt c.n off sz), .u (ckAt c.n off sz).up], .c (.b (!decide ((ckAt c.n off sz).k = 0)))]
  | _ => none
theorem s_cfind_eq {H : AH} {x : Sc} {c : Ck} (h : ckQ H x = some c) {off : BitVec 64} {sz : Int} : s_cfind [.c x, .c (.u off), .c (.i sz)] H = some (.t [.g [.i (if (ckAt c.n off sz).k = 1 then ((ckAt c.n off sz).h : Int) else 0), ckP x (ckAt c.n off sz), .u (ckAt c.n off sz).up], .c (.b (!decide ((ckAt c.n off sz).k = 0)))]) := by simp only [s_cfind, h, Option.map_some]
set_option maxRecDepth 100000 in
set_option maxHeartbeats 2000000 in
theorem ok_cfind : FpOk Try.prog 83 (fun args H => (s_cfind args H).map fun v => (v, H)) := by
  refine fq_ok (s := s_cfind) (tab := []) hmix TabOk.nil Try.func83 rfl Try.results83 Try.ntmps83 (by kernel_rfl) (by kernel_rfl) ?_
  intro args H v h hargs hH
  unfold s_cfind at h
  split at h
  · rename_i x off sz
    rw [Option.map_eq_some_iff] at h
    obtain ⟨c, hc, rfl⟩ := h
    obtain ⟨id, o, cs, F, rfl, ck⟩ := ckQ_is hc
    have lid := ck.lid
    have ho := ck.ho
    have q := ck.q
    have d0 := ck.d0
    have hoX : ∀ X, hg (H ++ X) id = .own cs := fun X => by rw [hg_lt' lid, ho]
    refine ⟨by simp only [List.length_cons, List.length_nil]; decide, by simp only [AV.bel, List.all_cons, List.all_nil, ckP_bel _ lid]; rfl, ?_⟩
    have hh := ckAt_h ck.ok.n0 ck.ok.n1 off sz
    have r4 : BitVec.ofInt 64 4 = 4#64 := rfl
    have r8 : BitVec.ofInt 64 8 = 8#64 := rfl
    by_cases s4 : sz = 4
    · subst s4
      rcases Classical.propComplete (off % 4#64 = 0#64) with m4 | m4
      · rcases Classical.propComplete (off / 4#64 < BitVec.ofInt 64 c.n) with l | l
        · have ei := ck_int ck.ok.n0 ck.ok.n1 (of_eq_true l)
          have e : ckAt c.n off 4 = ⟨1, (off / 4#64).toNat, 0#64⟩ := if_pos ⟨rfl, of_eq_true m4, of_eq_true l⟩
          rw [e] at hh ⊢
          (try simp (config := { maxSteps := 10000000 }) only [go_sem, seval, ho, hoX, d0, ckP, m4, l]; repeat (simp (disch := omega) only [w64_d, ipos, ineg, dpos, dneg]; try simp (config := { maxSteps := 10000000 }) only [go_sem, seval, ho, hoX, d0, ckP, m4, l]))
          exact ⟨by rw [ei], subH_app _ _⟩
        · rcases Classical.propComplete (0#64 < BitVec.ofInt 64 c.n) with z | z
          · rcases Classical.propComplete (off - off % 8#64 = 49144#64) with e | e
            · (try simp (config := { maxSteps := 10000000 }) only [go_sem, seval, ho, hoX, d0, ckP, ckAt, r4, m4, l, z, e, true_and, and_true, false_and, and_false, or_true, true_or, or_false, false_or, not_true_eq_false, not_false_eq_true, if_true, if_false]; repeat (simp (disch := omega) only [w64_d, ipos, ineg, dpos, dneg]; try simp (config := { maxSteps := 10000000 }) only [go_sem, seval, ho, hoX, d0, ckP, ckAt, r4, m4, l, z, e, true_and, and_true, false_and, and_false, or_true, true_or, or_false, false_or, not_true_eq_false, not_false_eq_true, if_true, if_false]))
              exact subH_app _ _
            · rcases Classical.propComplete (16384#64 ≤ off - off % 8#64) with g | g
              · rcases Classical.propComplete (off - off % 8#64 < 16384#64 + 8#64 * BitVec.ofInt 64 c.n) with t | t
                · have ix := ck_idx ck.ok.n0 ck.ok.n1 (of_eq_true g) (of_eq_true t)
                  (try simp (config := { maxSteps := 10000000 }) only [go_sem, seval, ho, hoX, d0, ckP, ckAt, r4, m4, l, z, e, g, t, true_and, and_true, false_and, and_false, or_true, true_or, or_false, false_or, not_true_eq_false, not_false_eq_true, if_true, if_false]; repeat (simp (disch := omega) only [w64_d, ipos, ineg, dpos, dneg]; try simp (config := { maxSteps := 10000000 }) only [go_sem, seval, ho, hoX, d0, ckP, ckAt, r4, m4, l, z, e, g, t, true_and, and_true, false_and, and_false, or_true, true_or, or_false, false_or, not_true_eq_false, not_false_eq_true, if_true, if_false]))
                  exact subH_app _ _
                · (try simp (config := { maxSteps := 10000000 }) only [go_sem, seval, ho, hoX, d0, ckP, ckAt, r4, m4, l, z, e, g, t, true_and, and_true, false_and, and_false, or_true, true_or, or_false, false_or, not_true_eq_false, not_false_eq_true, if_true, if_false]; repeat (simp (disch := omega) only [w64_d, ipos, ineg, dpos, dneg]; try simp (config := { maxSteps := 10000000 }) only [go_sem, seval, ho, hoX, d0, ckP, ckAt, r4, m4, l, z, e, g, t, true_and, and_true, false_and, and_false, or_true, true_or, or_false, false_or, not_true_eq_false, not_false_eq_true, if_true, if_false]))
                  exact subH_app _ _
              · (try simp (config := { maxSteps := 10000000 }) only [go_sem, seval, ho, hoX, d0, ckP, ckAt, r4, m4, l, z, e, g, true_and, and_true, false_and, and_false, or_true, true_or, or_false, false_or, not_true_eq_false, not_false_eq_true, if_true, if_false]; repeat (simp (disch := omega) only [w64_d, ipos, ineg, dpos, dneg]; try simp (config := { maxSteps := 10000000 }) only [go_sem, seval, ho, hoX, d0, ckP, ckAt, r4, m4, l, z, e, g, true_and, and_true, false_and, and_false, or_true, true_or, or_false, false_or, not_true_eq_false, not_false_eq_true, if_true, if_false]))
                exact subH_app _ _
          · rcases Classical.propComplete (16384#64 ≤ off - off % 8#64) with g | g
            · rcases Classical.propComplete (off - off % 8#64 < 16384#64 + 8#64 * BitVec.ofInt 64 c.n) with t | t
              · have ix := ck_idx ck.ok.n0 ck.ok.n1 (of_eq_true g) (of_eq_true t)
                (try simp (config := { maxSteps := 10000000 }) only [go_sem, seval, ho, hoX, d0, ckP, ckAt, r4, m4, l, z, g, t, true_and, and_true, false_and, and_false, or_true, true_or, or_false, false_or, not_true_eq_false, not_false_eq_true, if_true, if_false]; repeat (simp (disch := omega) only [w64_d, ipos, ineg, dpos, dneg]; try simp (config := { maxSteps := 10000000 }) only [go_sem, seval, ho, hoX, d0, ckP, ckAt, r4, m4, l, z, g, t, true_and, and_true, false_and, and_false, or_true, true_or, or_false, false_or, not_true_eq_false, not_false_eq_true, if_true, if_false]))
                exact subH_app _ _
              · (try simp (config := { maxSteps := 10000000 }) only [go_sem, seval, ho, hoX, d0, ckP, ckAt, r4, m4, l, z, g, t, true_and, and_true, false_and, and_false, or_true, true_or, or_false, false_or, not_true_eq_false, not_false_eq_true, if_true, if_false]; repeat (simp (disch := omega) only [w64_d, ipos, ineg, dpos, dneg]; try simp (config := { maxSteps := 10000000 }) only [go_sem, seval, ho, hoX, d0, ckP, ckAt, r4, m4, l, z, g, t, true_and, and_true, false_and, and_false, or_true, true_or, or_false, false_or, not_true_eq_false, not_false_eq_true, if_true, if_false]))
                exact subH_app _ _
            · (try simp (config := { maxSteps := 10000000 }) only [go_sem, seval, ho, hoX, d0, ckP, ckAt, r4, m4, l, z, g, true_and, and_true, false_and, and_false, or_true, true_or, or_false, false_or, not_true_eq_false, not_false_eq_true, if_true, if_false]; repeat (simp (disch := omega) only [w64_d, ipos, ineg, dpos, dneg]; try simp (config := { maxSteps := 10000000 }) only [go_sem, seval, ho, hoX, d0, ckP, ckAt, r4, m4, l, z, g, true_and, and_true, false_and, and_false, or_true, true_or, or_false, false_or, not_true_eq_false, not_false_eq_true, if_true, if_false]))
              exact subH_app _ _
      · (try simp (config := { maxSteps := 10000000 }) only [go_sem, seval, ho, hoX, d0, ckP, ckAt, r4, m4, true_and, and_true, false_and, and_false, or_true, true_or, or_false, false_or, not_true_eq_false, not_false_eq_true, if_true, if_false]; repeat (simp (disch := omega) only [w64_d, ipos, ineg, dpos, dneg]; try simp (config := { maxSteps := 10000000 }) only [go_sem, seval, ho, hoX, d0, ckP, ckAt, r4, m4, true_and, and_true, false_and, and_false, or_true, true_or, or_false, false_or, not_true_eq_false, not_false_eq_true, if_true, if_false]))
        exact subH_app _ _
    by_cases s8 : sz = 8
    · subst s8
      rcases Classical.propComplete (off % 8#64 = 0#64) with m8 | m8
      · rcases Classical.propComplete (0#64 < BitVec.ofInt 64 c.n) with z | z
        · rcases Classical.propComplete (off - off % 8#64 = 49144#64) with e | e
          · (try simp (config := { maxSteps := 10000000 }) only [go_sem, seval, ho, hoX, d0, ckP, ckAt, r8, m8, z, e, true_and, and_true, false_and, and_false, or_true, true_or, or_false, false_or, not_true_eq_false, not_false_eq_true, if_true, if_false]; repeat (simp (disch := omega) only [w64_d, ipos, ineg, dpos, dneg]; try simp (config := { maxSteps := 10000000 }) only [go_sem, seval, ho, hoX, d0, ckP, ckAt, r8, m8, z, e, true_and, and_true, false_and, and_false, or_true, true_or, or_false, false_or, not_true_eq_false, not_false_eq_true, if_true, if_false]))
            exact subH_app _ _
          · rcases Classical.propComplete (16384#64 ≤ off - off % 8#64) with g | g
            · rcases Classical.propComplete (off - off % 8#64 < 16384#64 + 8#64 * BitVec.ofInt 64 c.n) with t | t
              · have ix := ck_idx ck.ok.n0 ck.ok.n1 (of_eq_true g) (of_eq_true t)
                (try simp (config := { maxSteps := 10000000 }) only [go_sem, seval, ho, hoX, d0, ckP, ckAt, r8, m8, z, e, g, t, true_and, and_true, false_and, and_false, or_true, true_or, or_false, false_or, not_true_eq_false, not_false_eq_true, if_true, if_false]; repeat (simp (disch := omega) only [w64_d, ipos, ineg, dpos, dneg]; try simp (config := { maxSteps := 10000000 }) only [go_sem, seval, ho, hoX, d0, ckP, ckAt, r8, m8, z, e, g, t, true_and, and_true, false_and, and_false, or_true, true_or, or_false, false_or, not_true_eq_false, not_false_eq_true, if_true, if_false]))
                exact subH_app _ _
              · (try simp (config := { maxSteps := 10000000 }) only [go_sem, seval, ho, hoX, d0, ckP, ckAt, r8, m8, z, e, g, t, true_and, and_true, false_and, and_false, or_true, true_or, or_false, false_or, not_true_eq_false, not_false_eq_true, if_true, if_false]; repeat (simp (disch := omega) only [w64_d, ipos, ineg, dpos, dneg]; try simp (config := { maxSteps := 10000000 }) only [go_sem, seval, ho, hoX, d0, ckP, ckAt, r8, m8, z, e, g, t, true_and, and_true, false_and, and_false, or_true, true_or, or_false, false_or, not_true_eq_false, not_false_eq_true, if_true, if_false]))
                exact subH_app _ _
            · (try simp (config := { maxSteps := 10000000 }) only [go_sem, seval, ho, hoX, d0, ckP, ckAt, r8, m8, z, e, g, true_and, and_true, false_and, and_false, or_true, true_or, or_false, false_or, not_true_eq_false, not_false_eq_true, if_true, if_false]; repeat (simp (disch := omega) only [w64_d, ipos, ineg, dpos, dneg]; try simp (config := { maxSteps := 10000000 }) only [go_sem, seval, ho, hoX, d0, ckP, ckAt, r8, m8, z, e, g, true_and, and_true, false_and, and_false, or_true, true_or, or_false, false_or, not_true_eq_false, not_false_eq_true, if_true, if_false]))
              exact subH_app _ _
        · rcases Classical.propComplete (16384#64 ≤ off - off % 8#64) with g | g
          · rcases Classical.propComplete (off - off % 8#64 < 16384#64 + 8#64 * BitVec.ofInt 64 c.n) with t | t
            · have ix := ck_idx ck.ok.n0 ck.ok.n1 (of_eq_true g) (of_eq_true t)
              (try simp (config := { maxSteps := 10000000 }) only [go_sem, seval, ho, hoX, d0, ckP, ckAt, r8, m8, z, g, t, true_and, and_true, false_and, and_false, or_true, true_or, or_false, false_or, not_true_eq_false, not_false_eq_true, if_true, if_false]; repeat (simp (disch := omega) only [w64_d, ipos, ineg, dpos, dneg]; try simp (config := { maxSteps := 10000000 }) only [go_sem, seval, ho, hoX, d0, ckP, ckAt, r8, m8, z, g, t, true_and, and_true, false_and, and_false, or_true, true_or, or_false, false_or, not_true_eq_false, not_false_eq_true, if_true, if_false]))
              exact subH_app _ _
            · (try simp (config := { maxSteps := 10000000 }) only [go_sem, seval, ho, hoX, d0, ckP, ckAt, r8, m8, z, g, t, true_and, and_true, false_and, and_false, or_true, true_or, or_false, false_or, not_true_eq_false, not_false_eq_true, if_true, if_false]; repeat (simp (disch := omega) only [w64_d, ipos, ineg, dpos, dneg]; try simp (config := { maxSteps := 10000000 }) only [go_sem, seval, ho, hoX, d0, ckP, ckAt, r8, m8, z, g, t, true_and, and_true, false_and, and_false, or_true, true_or, or_false, false_or, not_true_eq_false, not_false_eq_true, if_true, if_false]))
              exact subH_app _ _
          · (try simp (config := { maxSteps := 10000000 }) only [go_sem, seval, ho, hoX, d0, ckP, ckAt, r8, m8, z, g, true_and, and_true, false_and, and_false, or_true, true_or, or_false, false_or, not_true_eq_false, not_false_eq_true, if_true, if_false]; repeat (simp (disch := omega) only [w64_d, ipos, ineg, dpos, dneg]; try simp (config := { maxSteps := 10000000 }) only [go_sem, seval, ho, hoX, d0, ckP, ckAt, r8, m8, z, g, true_and, and_true, false_and, and_false, or_true, true_or, or_false, false_or, not_true_eq_false, not_false_eq_true, if_true, if_false]))
            exact subH_app _ _
      · (try simp (config := { maxSteps := 10000000 }) only [go_sem, seval, ho, hoX, d0, ckP, ckAt, r8, m8, true_and, and_true, false_and, and_false, or_true, true_or, or_false, false_or, not_true_eq_false, not_false_eq_true, if_true, if_false]; repeat (simp (disch := omega) only [w64_d, ipos, ineg, dpos, dneg]; try simp (config := { maxSteps := 10000000 }) only [go_sem, seval, ho, hoX, d0, ckP, ckAt, r8, m8, true_and, and_true, false_and, and_false, or_true, true_or, or_false, false_or, not_true_eq_false, not_false_eq_true, if_true, if_false]))
        exact subH_app _ _
    (try simp (config := { maxSteps := 10000000 }) only [go_sem, seval, ho, hoX, d0, ckP, ckAt, s4, s8, true_and, and_true, false_and, and_false, or_true, true_or, or_false, false_or, not_true_eq_false, not_false_eq_true, if_true, if_false]; repeat (simp (disch := omega) only [w64_d, ipos, ineg, dpos, dneg]; try simp (config := { maxSteps := 10000000 }) only [go_sem, seval, ho, hoX, d0, ckP, ckAt, s4, s8, true_and, and_true, false_and, and_false, or_true, true_or, or_false, false_or, not_true_eq_false, not_false_eq_true, if_true, if_false]))
    exact subH_app _ _
  · simp at h
end
end Go.Proofs.Ytfddaaplnnlfoaa
