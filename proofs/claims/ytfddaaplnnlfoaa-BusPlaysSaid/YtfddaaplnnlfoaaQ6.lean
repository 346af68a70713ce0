/- The controller of a bus: where a register stands: contracts (printed by gq6.py). -/
import Derived.Test.YtfddaaplnnlfoaaQ3
namespace Go.Proofs.Ytfddaaplnnlfoaa
open Go.Am
set_option linter.unusedSimpArgs false
set_option linter.unusedVariables false
noncomputable section

noncomputable def pkQ (H : AH) (x : Sc) : Option Pk := atQ pkC PkOk H x
def pkS (H : AH) (x : Sc) (c : Pk) : AH := setAt pkC 68 H x c
structure PkIs (H : AH) (id o : Nat) (cs : List Sc) (c : Pk) (F : Pk → List Sc) : Prop where
  ok : PkOk c
  ho : hg H id = .own cs
  lid : id < H.length
  q : o + 68 ≤ cs.length
  d0 : cs.getD o .any = .i c.n
  dp : ∀ k, k < 32 → cs.getD (o + 1 + k) .any = k8 (c.p.getD k 0)
  dw : cs.getD (o + 33) .any = w32 c.w
  dq : cs.getD (o + 34) .any = w32 c.q
  ds : cs.getD (o + 35) .any = w32 c.s
  de : ∀ k, k < 16 → cs.getD (o + 36 + k) .any = w32 (c.e.getD k 0#32)
  dl : ∀ k, k < 16 → cs.getD (o + 52 + k) .any = k8 (c.l.getD k 0)
  wp : ∀ k, k < 32 → ∀ v, wr cs (o + 1 + k) [k8 v] = F { c with p := c.p.set k v }
  ww : ∀ v, wr cs (o + 33) [w32 v] = F { c with w := v }
  wq : ∀ v, wr cs (o + 34) [w32 v] = F { c with q := v }
  ws : ∀ v, wr cs (o + 35) [w32 v] = F { c with s := v }
  we : ∀ k, k < 16 → ∀ v, wr cs (o + 36 + k) [w32 v] = F { c with e := c.e.set k v }
  wl : ∀ k, k < 16 → ∀ v, wr cs (o + 52 + k) [k8 v] = F { c with l := c.l.set k v }
  set : ∀ d, pkS H (.p id o 0) d = H.set id (.own (F d))
  bel : ∀ d, belH H = true → belH (H.set id (.own (F d))) = true
  self : F c = cs
  enc : ∃ A B, o = A.length ∧ ∀ d, F d = A ++ (pkC d ++ B)
theorem pkQ_is {H : AH} {x : Sc} {c : Pk} (h : pkQ H x = some c) : ∃ id o cs F, x = .p id o 0 ∧ PkIs H id o cs c F := by
  obtain ⟨id, A, B, rfl, ho, ok⟩ := atQ_inv h
  have ll := pkC_l ok
  have G : ∀ i, i < 68 → (A ++ (pkC c ++ B)).getD (A.length + i) .any = (pkC c).getD i .any := fun i hi => getD_mid (by omega)
  have W : ∀ i s, i < 68 → wr (A ++ (pkC c ++ B)) (A.length + i) [s] = A ++ (wr (pkC c) i [s] ++ B) := fun i s hi => wr_mid (by rw [ll]; simp; omega)
  refine ⟨id, A.length, A ++ (pkC c ++ B), fun d => A ++ (pkC d ++ B), rfl, ok, ho, hg_lt (by rw [ho]; rfl), by simp only [List.length_append, ll]; omega, ?_, ?_, ?_, ?_, ?_, ?_, ?_, ?_, ?_, ?_, ?_, ?_, ?_, fun d => setAt_of ho ll, fun d hH => ?_, rfl, ⟨A, B, rfl, fun _ => rfl⟩⟩
  · have := G 0 (by omega); rw [Nat.add_zero] at this; exact this
  · intro k hk; rw [Nat.add_assoc, G _ (by omega), pk_p ok hk]
  · rw [G _ (by omega), pk_w ok]
  · rw [G _ (by omega), pk_q ok]
  · rw [G _ (by omega), pk_s ok]
  · intro k hk; rw [Nat.add_assoc, G _ (by omega), pk_e ok hk]
  · intro k hk; rw [Nat.add_assoc, G _ (by omega), pk_l ok hk]
  · intro k hk v; rw [Nat.add_assoc, W _ _ (by omega), pkw_p ok hk]
  · intro v; rw [W _ _ (by omega), pkw_w ok]
  · intro v; rw [W _ _ (by omega), pkw_q ok]
  · intro v; rw [W _ _ (by omega), pkw_s ok]
  · intro k hk v; rw [Nat.add_assoc, W _ _ (by omega), pkw_e ok hk]
  · intro k hk v; rw [Nat.add_assoc, W _ _ (by omega), pkw_l ok hk]
  · have := setAt_bel ho ll (pkC_bel d) hH
    rwa [setAt_of ho ll] at this
theorem pkQ_of {H : AH} {id : Nat} {A B : List Sc} {c : Pk} (ho : hg H id = .own (A ++ (pkC c ++ B))) (ok : PkOk c) : pkQ H (.p id A.length 0) = some c := atQ_of pk_enc ⟨id, A, B, rfl, ho, ok⟩
theorem PkIs.q' {H : AH} {id o : Nat} {cs : List Sc} {c : Pk} {F : Pk → List Sc} (h : PkIs H id o cs c F) {K : AH} (hk : hg K id = hg H id) : pkQ K (.p id o 0) = some c := by
  obtain ⟨A, B, e1, e2⟩ := h.enc
  subst e1
  exact pkQ_of (by rw [hk, h.ho, ← h.self, e2]) h.ok
theorem PkIs.nq {H : AH} {id o : Nat} {cs : List Sc} {c : Pk} {F : Pk → List Sc} (h : PkIs H id o cs c F) {d : Pk} (hd : PkOk d) : pkQ (H.set id (.own (F d))) (.p id o 0) = some d := by
  obtain ⟨A, B, e1, e2⟩ := h.enc
  subst e1
  exact pkQ_of (by rw [hg_set_same h.lid, e2]) hd
theorem PkIs.ns {H : AH} {id o : Nat} {cs : List Sc} {c : Pk} {F : Pk → List Sc} (h : PkIs H id o cs c F) {d e : Pk} (hd : PkOk d) : pkS (H.set id (.own (F d))) (.p id o 0) e = H.set id (.own (F e)) := by
  obtain ⟨A, B, e1, e2⟩ := h.enc
  subst e1
  unfold pkS
  rw [setAt_of (a := d) (by rw [hg_set_same h.lid, e2]) (pkC_l hd), List.set_set, e2]
theorem toInt_32 {a : BitVec 64} (h : a.toNat < 32) : a.toInt = (a.toNat : Int) := by rw [BitVec.toInt_eq_toNat_cond, if_pos (by omega)]
noncomputable def s_pfind (args : List AV) (H : AH) : Option AV :=
  match args with
  | [.c x, .c (.u off), .c (.i sz)] => (pkQ H x).map fun c => .t [.c (.i (plAt c.n off sz).k), .c (.i ((plAt c.n off sz).i : Int))]
  | _ => none
theorem s_pfind_eq {H : AH} {x : Sc} {c : Pk} (h : pkQ H x = some c) {off : BitVec 64} {sz : Int} : s_pfind [.c x, .c (.u off), .c (.i sz)] H = some (.t [.c (.i (plAt c.n off sz).k), .c (.i ((plAt c.n off sz).i : Int))]) := by simp only [s_pfind, h, Option.map_some]
set_option maxRecDepth 100000 in
set_option maxHeartbeats 2000000 in
theorem ok_pfind : FpOk Try.prog 84 (fun args H => (s_pfind args H).map fun v => (v, H)) := by
  refine fq_ok (s := s_pfind) (tab := []) hmix TabOk.nil Try.func84 rfl Try.results84 Try.ntmps84 (by kernel_rfl) (by kernel_rfl) ?_
  intro args H v h hargs hH
  unfold s_pfind at h
  split at h
  · rename_i x off sz
    rw [Option.map_eq_some_iff] at h
    obtain ⟨c, hc, rfl⟩ := h
    obtain ⟨id, o, cs, F, rfl, ck⟩ := pkQ_is hc
    have lid := ck.lid
    have ho := ck.ho
    have q := ck.q
    have d0 := ck.d0
    refine ⟨by simp only [List.length_cons, List.length_nil]; decide, rfl, ?_⟩
    have n0 := ck.ok.n0
    have n1 := ck.ok.n1
    have e2 : w64 (2 * c.n) = 2 * c.n := w64_d (by omega) (by omega)
    have hi := (plAt_i ck.ok.n0 ck.ok.n1 off sz).1
    rcases Classical.propComplete (sz = 4) with s4 | s4
    · rcases Classical.propComplete (off % 4#64 = 0#64) with m4 | m4
      · rcases Classical.propComplete (BitVec.ofInt 64 (2 * c.n) = 0#64) with z | z
        · (try simp (config := { maxSteps := 10000000 }) only [go_sem, seval, ho, d0, e2, plAt, s4, m4, z, true_and, and_true, false_and, and_false, or_true, true_or, or_false, false_or, not_true_eq_false, not_false_eq_true, if_true, if_false]; repeat (simp (disch := omega) only [w64_d, ipos, ineg, dpos, dneg]; try simp (config := { maxSteps := 10000000 }) only [go_sem, seval, ho, d0, e2, plAt, s4, m4, z, true_and, and_true, false_and, and_false, or_true, true_or, or_false, false_or, not_true_eq_false, not_false_eq_true, if_true, if_false]))
          exact subH_refl _
        · rcases Classical.propComplete (4#64 ≤ off) with a | a
          · rcases Classical.propComplete (off < 128#64) with b | b
            · have ei := toInt_32 (a := off / 4#64) (by simpa only [plAt, not_true_eq_false, s4, m4, z, a, b, true_and, and_true, false_and, and_false, or_true, true_or, or_false, false_or, not_true_eq_false, not_false_eq_true, if_true, if_false] using hi)
              (try simp (config := { maxSteps := 10000000 }) only [go_sem, seval, ho, d0, e2, plAt, s4, m4, z, a, b, ei, true_and, and_true, false_and, and_false, or_true, true_or, or_false, false_or, not_true_eq_false, not_false_eq_true, if_true, if_false]; repeat (simp (disch := omega) only [w64_d, ipos, ineg, dpos, dneg]; try simp (config := { maxSteps := 10000000 }) only [go_sem, seval, ho, d0, e2, plAt, s4, m4, z, a, b, ei, true_and, and_true, false_and, and_false, or_true, true_or, or_false, false_or, not_true_eq_false, not_false_eq_true, if_true, if_false]))
              exact subH_refl _
            · rcases Classical.propComplete (off = 4096#64) with c1 | c1
              · (try simp (config := { maxSteps := 10000000 }) only [go_sem, seval, ho, d0, e2, plAt, s4, m4, z, a, b, c1, true_and, and_true, false_and, and_false, or_true, true_or, or_false, false_or, not_true_eq_false, not_false_eq_true, if_true, if_false]; repeat (simp (disch := omega) only [w64_d, ipos, ineg, dpos, dneg]; try simp (config := { maxSteps := 10000000 }) only [go_sem, seval, ho, d0, e2, plAt, s4, m4, z, a, b, c1, true_and, and_true, false_and, and_false, or_true, true_or, or_false, false_or, not_true_eq_false, not_false_eq_true, if_true, if_false]))
                exact subH_refl _
              · rcases Classical.propComplete (8192#64 ≤ off) with d | d
                · rcases Classical.propComplete (off < 8192#64 + 128#64 * BitVec.ofInt 64 (2 * c.n)) with e | e
                  · rcases Classical.propComplete (off % 128#64 = 0#64) with f | f
                    · have ei := toInt_32 (a := (off - 8192#64) / 128#64) (by simpa only [plAt, not_true_eq_false, s4, m4, z, a, b, c1, d, e, f, true_and, and_true, false_and, and_false, or_true, true_or, or_false, false_or, not_true_eq_false, not_false_eq_true, if_true, if_false] using hi)
                      (try simp (config := { maxSteps := 10000000 }) only [go_sem, seval, ho, d0, e2, plAt, s4, m4, z, a, b, c1, d, e, f, ei, true_and, and_true, false_and, and_false, or_true, true_or, or_false, false_or, not_true_eq_false, not_false_eq_true, if_true, if_false]; repeat (simp (disch := omega) only [w64_d, ipos, ineg, dpos, dneg]; try simp (config := { maxSteps := 10000000 }) only [go_sem, seval, ho, d0, e2, plAt, s4, m4, z, a, b, c1, d, e, f, ei, true_and, and_true, false_and, and_false, or_true, true_or, or_false, false_or, not_true_eq_false, not_false_eq_true, if_true, if_false]))
                      exact subH_refl _
                    · rcases Classical.propComplete (2097152#64 ≤ off) with g | g
                      · rcases Classical.propComplete (off < 2097152#64 + 4096#64 * BitVec.ofInt 64 (2 * c.n)) with h1 | h1
                        · rcases Classical.propComplete (off % 4096#64 = 0#64) with i | i
                          · have ei := toInt_32 (a := (off - 2097152#64) / 4096#64) (by simpa only [plAt, not_true_eq_false, s4, m4, z, a, b, c1, d, e, f, g, h1, i, true_and, and_true, false_and, and_false, or_true, true_or, or_false, false_or, not_true_eq_false, not_false_eq_true, if_true, if_false] using hi)
                            (try simp (config := { maxSteps := 10000000 }) only [go_sem, seval, ho, d0, e2, plAt, s4, m4, z, a, b, c1, d, e, f, g, h1, i, ei, true_and, and_true, false_and, and_false, or_true, true_or, or_false, false_or, not_true_eq_false, not_false_eq_true, if_true, if_false]; repeat (simp (disch := omega) only [w64_d, ipos, ineg, dpos, dneg]; try simp (config := { maxSteps := 10000000 }) only [go_sem, seval, ho, d0, e2, plAt, s4, m4, z, a, b, c1, d, e, f, g, h1, i, ei, true_and, and_true, false_and, and_false, or_true, true_or, or_false, false_or, not_true_eq_false, not_false_eq_true, if_true, if_false]))
                            exact subH_refl _
                          · rcases Classical.propComplete (off % 4096#64 = 4#64) with j | j
                            · have ei := toInt_32 (a := (off - 2097152#64) / 4096#64) (by simpa only [plAt, not_true_eq_false, s4, m4, z, a, b, c1, d, e, f, g, h1, i, j, true_and, and_true, false_and, and_false, or_true, true_or, or_false, false_or, not_true_eq_false, not_false_eq_true, if_true, if_false] using hi)
                              (try simp (config := { maxSteps := 10000000 }) only [go_sem, seval, ho, d0, e2, plAt, s4, m4, z, a, b, c1, d, e, f, g, h1, i, j, ei, true_and, and_true, false_and, and_false, or_true, true_or, or_false, false_or, not_true_eq_false, not_false_eq_true, if_true, if_false]; repeat (simp (disch := omega) only [w64_d, ipos, ineg, dpos, dneg]; try simp (config := { maxSteps := 10000000 }) only [go_sem, seval, ho, d0, e2, plAt, s4, m4, z, a, b, c1, d, e, f, g, h1, i, j, ei, true_and, and_true, false_and, and_false, or_true, true_or, or_false, false_or, not_true_eq_false, not_false_eq_true, if_true, if_false]))
                              exact subH_refl _
                            · (try simp (config := { maxSteps := 10000000 }) only [go_sem, seval, ho, d0, e2, plAt, s4, m4, z, a, b, c1, d, e, f, g, h1, i, j, true_and, and_true, false_and, and_false, or_true, true_or, or_false, false_or, not_true_eq_false, not_false_eq_true, if_true, if_false]; repeat (simp (disch := omega) only [w64_d, ipos, ineg, dpos, dneg]; try simp (config := { maxSteps := 10000000 }) only [go_sem, seval, ho, d0, e2, plAt, s4, m4, z, a, b, c1, d, e, f, g, h1, i, j, true_and, and_true, false_and, and_false, or_true, true_or, or_false, false_or, not_true_eq_false, not_false_eq_true, if_true, if_false]))
                              exact subH_refl _
                        · (try simp (config := { maxSteps := 10000000 }) only [go_sem, seval, ho, d0, e2, plAt, s4, m4, z, a, b, c1, d, e, f, g, h1, true_and, and_true, false_and, and_false, or_true, true_or, or_false, false_or, not_true_eq_false, not_false_eq_true, if_true, if_false]; repeat (simp (disch := omega) only [w64_d, ipos, ineg, dpos, dneg]; try simp (config := { maxSteps := 10000000 }) only [go_sem, seval, ho, d0, e2, plAt, s4, m4, z, a, b, c1, d, e, f, g, h1, true_and, and_true, false_and, and_false, or_true, true_or, or_false, false_or, not_true_eq_false, not_false_eq_true, if_true, if_false]))
                          exact subH_refl _
                      · (try simp (config := { maxSteps := 10000000 }) only [go_sem, seval, ho, d0, e2, plAt, s4, m4, z, a, b, c1, d, e, f, g, true_and, and_true, false_and, and_false, or_true, true_or, or_false, false_or, not_true_eq_false, not_false_eq_true, if_true, if_false]; repeat (simp (disch := omega) only [w64_d, ipos, ineg, dpos, dneg]; try simp (config := { maxSteps := 10000000 }) only [go_sem, seval, ho, d0, e2, plAt, s4, m4, z, a, b, c1, d, e, f, g, true_and, and_true, false_and, and_false, or_true, true_or, or_false, false_or, not_true_eq_false, not_false_eq_true, if_true, if_false]))
                        exact subH_refl _
                  · rcases Classical.propComplete (2097152#64 ≤ off) with g | g
                    · rcases Classical.propComplete (off < 2097152#64 + 4096#64 * BitVec.ofInt 64 (2 * c.n)) with h1 | h1
                      · rcases Classical.propComplete (off % 4096#64 = 0#64) with i | i
                        · have ei := toInt_32 (a := (off - 2097152#64) / 4096#64) (by simpa only [plAt, not_true_eq_false, s4, m4, z, a, b, c1, d, e, g, h1, i, true_and, and_true, false_and, and_false, or_true, true_or, or_false, false_or, not_true_eq_false, not_false_eq_true, if_true, if_false] using hi)
                          (try simp (config := { maxSteps := 10000000 }) only [go_sem, seval, ho, d0, e2, plAt, s4, m4, z, a, b, c1, d, e, g, h1, i, ei, true_and, and_true, false_and, and_false, or_true, true_or, or_false, false_or, not_true_eq_false, not_false_eq_true, if_true, if_false]; repeat (simp (disch := omega) only [w64_d, ipos, ineg, dpos, dneg]; try simp (config := { maxSteps := 10000000 }) only [go_sem, seval, ho, d0, e2, plAt, s4, m4, z, a, b, c1, d, e, g, h1, i, ei, true_and, and_true, false_and, and_false, or_true, true_or, or_false, false_or, not_true_eq_false, not_false_eq_true, if_true, if_false]))
                          exact subH_refl _
                        · rcases Classical.propComplete (off % 4096#64 = 4#64) with j | j
                          · have ei := toInt_32 (a := (off - 2097152#64) / 4096#64) (by simpa only [plAt, not_true_eq_false, s4, m4, z, a, b, c1, d, e, g, h1, i, j, true_and, and_true, false_and, and_false, or_true, true_or, or_false, false_or, not_true_eq_false, not_false_eq_true, if_true, if_false] using hi)
                            (try simp (config := { maxSteps := 10000000 }) only [go_sem, seval, ho, d0, e2, plAt, s4, m4, z, a, b, c1, d, e, g, h1, i, j, ei, true_and, and_true, false_and, and_false, or_true, true_or, or_false, false_or, not_true_eq_false, not_false_eq_true, if_true, if_false]; repeat (simp (disch := omega) only [w64_d, ipos, ineg, dpos, dneg]; try simp (config := { maxSteps := 10000000 }) only [go_sem, seval, ho, d0, e2, plAt, s4, m4, z, a, b, c1, d, e, g, h1, i, j, ei, true_and, and_true, false_and, and_false, or_true, true_or, or_false, false_or, not_true_eq_false, not_false_eq_true, if_true, if_false]))
                            exact subH_refl _
                          · (try simp (config := { maxSteps := 10000000 }) only [go_sem, seval, ho, d0, e2, plAt, s4, m4, z, a, b, c1, d, e, g, h1, i, j, true_and, and_true, false_and, and_false, or_true, true_or, or_false, false_or, not_true_eq_false, not_false_eq_true, if_true, if_false]; repeat (simp (disch := omega) only [w64_d, ipos, ineg, dpos, dneg]; try simp (config := { maxSteps := 10000000 }) only [go_sem, seval, ho, d0, e2, plAt, s4, m4, z, a, b, c1, d, e, g, h1, i, j, true_and, and_true, false_and, and_false, or_true, true_or, or_false, false_or, not_true_eq_false, not_false_eq_true, if_true, if_false]))
                            exact subH_refl _
                      · (try simp (config := { maxSteps := 10000000 }) only [go_sem, seval, ho, d0, e2, plAt, s4, m4, z, a, b, c1, d, e, g, h1, true_and, and_true, false_and, and_false, or_true, true_or, or_false, false_or, not_true_eq_false, not_false_eq_true, if_true, if_false]; repeat (simp (disch := omega) only [w64_d, ipos, ineg, dpos, dneg]; try simp (config := { maxSteps := 10000000 }) only [go_sem, seval, ho, d0, e2, plAt, s4, m4, z, a, b, c1, d, e, g, h1, true_and, and_true, false_and, and_false, or_true, true_or, or_false, false_or, not_true_eq_false, not_false_eq_true, if_true, if_false]))
                        exact subH_refl _
                    · (try simp (config := { maxSteps := 10000000 }) only [go_sem, seval, ho, d0, e2, plAt, s4, m4, z, a, b, c1, d, e, g, true_and, and_true, false_and, and_false, or_true, true_or, or_false, false_or, not_true_eq_false, not_false_eq_true, if_true, if_false]; repeat (simp (disch := omega) only [w64_d, ipos, ineg, dpos, dneg]; try simp (config := { maxSteps := 10000000 }) only [go_sem, seval, ho, d0, e2, plAt, s4, m4, z, a, b, c1, d, e, g, true_and, and_true, false_and, and_false, or_true, true_or, or_false, false_or, not_true_eq_false, not_false_eq_true, if_true, if_false]))
                      exact subH_refl _
                · rcases Classical.propComplete (2097152#64 ≤ off) with g | g
                  · rcases Classical.propComplete (off < 2097152#64 + 4096#64 * BitVec.ofInt 64 (2 * c.n)) with h1 | h1
                    · rcases Classical.propComplete (off % 4096#64 = 0#64) with i | i
                      · have ei := toInt_32 (a := (off - 2097152#64) / 4096#64) (by simpa only [plAt, not_true_eq_false, s4, m4, z, a, b, c1, d, g, h1, i, true_and, and_true, false_and, and_false, or_true, true_or, or_false, false_or, not_true_eq_false, not_false_eq_true, if_true, if_false] using hi)
                        (try simp (config := { maxSteps := 10000000 }) only [go_sem, seval, ho, d0, e2, plAt, s4, m4, z, a, b, c1, d, g, h1, i, ei, true_and, and_true, false_and, and_false, or_true, true_or, or_false, false_or, not_true_eq_false, not_false_eq_true, if_true, if_false]; repeat (simp (disch := omega) only [w64_d, ipos, ineg, dpos, dneg]; try simp (config := { maxSteps := 10000000 }) only [go_sem, seval, ho, d0, e2, plAt, s4, m4, z, a, b, c1, d, g, h1, i, ei, true_and, and_true, false_and, and_false, or_true, true_or, or_false, false_or, not_true_eq_false, not_false_eq_true, if_true, if_false]))
                        exact subH_refl _
                      · rcases Classical.propComplete (off % 4096#64 = 4#64) with j | j
                        · have ei := toInt_32 (a := (off - 2097152#64) / 4096#64) (by simpa only [plAt, not_true_eq_false, s4, m4, z, a, b, c1, d, g, h1, i, j, true_and, and_true, false_and, and_false, or_true, true_or, or_false, false_or, not_true_eq_false, not_false_eq_true, if_true, if_false] using hi)
                          (try simp (config := { maxSteps := 10000000 }) only [go_sem, seval, ho, d0, e2, plAt, s4, m4, z, a, b, c1, d, g, h1, i, j, ei, true_and, and_true, false_and, and_false, or_true, true_or, or_false, false_or, not_true_eq_false, not_false_eq_true, if_true, if_false]; repeat (simp (disch := omega) only [w64_d, ipos, ineg, dpos, dneg]; try simp (config := { maxSteps := 10000000 }) only [go_sem, seval, ho, d0, e2, plAt, s4, m4, z, a, b, c1, d, g, h1, i, j, ei, true_and, and_true, false_and, and_false, or_true, true_or, or_false, false_or, not_true_eq_false, not_false_eq_true, if_true, if_false]))
                          exact subH_refl _
                        · (try simp (config := { maxSteps := 10000000 }) only [go_sem, seval, ho, d0, e2, plAt, s4, m4, z, a, b, c1, d, g, h1, i, j, true_and, and_true, false_and, and_false, or_true, true_or, or_false, false_or, not_true_eq_false, not_false_eq_true, if_true, if_false]; repeat (simp (disch := omega) only [w64_d, ipos, ineg, dpos, dneg]; try simp (config := { maxSteps := 10000000 }) only [go_sem, seval, ho, d0, e2, plAt, s4, m4, z, a, b, c1, d, g, h1, i, j, true_and, and_true, false_and, and_false, or_true, true_or, or_false, false_or, not_true_eq_false, not_false_eq_true, if_true, if_false]))
                          exact subH_refl _
                    · (try simp (config := { maxSteps := 10000000 }) only [go_sem, seval, ho, d0, e2, plAt, s4, m4, z, a, b, c1, d, g, h1, true_and, and_true, false_and, and_false, or_true, true_or, or_false, false_or, not_true_eq_false, not_false_eq_true, if_true, if_false]; repeat (simp (disch := omega) only [w64_d, ipos, ineg, dpos, dneg]; try simp (config := { maxSteps := 10000000 }) only [go_sem, seval, ho, d0, e2, plAt, s4, m4, z, a, b, c1, d, g, h1, true_and, and_true, false_and, and_false, or_true, true_or, or_false, false_or, not_true_eq_false, not_false_eq_true, if_true, if_false]))
                      exact subH_refl _
                  · (try simp (config := { maxSteps := 10000000 }) only [go_sem, seval, ho, d0, e2, plAt, s4, m4, z, a, b, c1, d, g, true_and, and_true, false_and, and_false, or_true, true_or, or_false, false_or, not_true_eq_false, not_false_eq_true, if_true, if_false]; repeat (simp (disch := omega) only [w64_d, ipos, ineg, dpos, dneg]; try simp (config := { maxSteps := 10000000 }) only [go_sem, seval, ho, d0, e2, plAt, s4, m4, z, a, b, c1, d, g, true_and, and_true, false_and, and_false, or_true, true_or, or_false, false_or, not_true_eq_false, not_false_eq_true, if_true, if_false]))
                    exact subH_refl _
          · rcases Classical.propComplete (off = 4096#64) with c1 | c1
            · (try simp (config := { maxSteps := 10000000 }) only [go_sem, seval, ho, d0, e2, plAt, s4, m4, z, a, c1, true_and, and_true, false_and, and_false, or_true, true_or, or_false, false_or, not_true_eq_false, not_false_eq_true, if_true, if_false]; repeat (simp (disch := omega) only [w64_d, ipos, ineg, dpos, dneg]; try simp (config := { maxSteps := 10000000 }) only [go_sem, seval, ho, d0, e2, plAt, s4, m4, z, a, c1, true_and, and_true, false_and, and_false, or_true, true_or, or_false, false_or, not_true_eq_false, not_false_eq_true, if_true, if_false]))
              exact subH_refl _
            · rcases Classical.propComplete (8192#64 ≤ off) with d | d
              · rcases Classical.propComplete (off < 8192#64 + 128#64 * BitVec.ofInt 64 (2 * c.n)) with e | e
                · rcases Classical.propComplete (off % 128#64 = 0#64) with f | f
                  · have ei := toInt_32 (a := (off - 8192#64) / 128#64) (by simpa only [plAt, not_true_eq_false, s4, m4, z, a, c1, d, e, f, true_and, and_true, false_and, and_false, or_true, true_or, or_false, false_or, not_true_eq_false, not_false_eq_true, if_true, if_false] using hi)
                    (try simp (config := { maxSteps := 10000000 }) only [go_sem, seval, ho, d0, e2, plAt, s4, m4, z, a, c1, d, e, f, ei, true_and, and_true, false_and, and_false, or_true, true_or, or_false, false_or, not_true_eq_false, not_false_eq_true, if_true, if_false]; repeat (simp (disch := omega) only [w64_d, ipos, ineg, dpos, dneg]; try simp (config := { maxSteps := 10000000 }) only [go_sem, seval, ho, d0, e2, plAt, s4, m4, z, a, c1, d, e, f, ei, true_and, and_true, false_and, and_false, or_true, true_or, or_false, false_or, not_true_eq_false, not_false_eq_true, if_true, if_false]))
                    exact subH_refl _
                  · rcases Classical.propComplete (2097152#64 ≤ off) with g | g
                    · rcases Classical.propComplete (off < 2097152#64 + 4096#64 * BitVec.ofInt 64 (2 * c.n)) with h1 | h1
                      · rcases Classical.propComplete (off % 4096#64 = 0#64) with i | i
                        · have ei := toInt_32 (a := (off - 2097152#64) / 4096#64) (by simpa only [plAt, not_true_eq_false, s4, m4, z, a, c1, d, e, f, g, h1, i, true_and, and_true, false_and, and_false, or_true, true_or, or_false, false_or, not_true_eq_false, not_false_eq_true, if_true, if_false] using hi)
                          (try simp (config := { maxSteps := 10000000 }) only [go_sem, seval, ho, d0, e2, plAt, s4, m4, z, a, c1, d, e, f, g, h1, i, ei, true_and, and_true, false_and, and_false, or_true, true_or, or_false, false_or, not_true_eq_false, not_false_eq_true, if_true, if_false]; repeat (simp (disch := omega) only [w64_d, ipos, ineg, dpos, dneg]; try simp (config := { maxSteps := 10000000 }) only [go_sem, seval, ho, d0, e2, plAt, s4, m4, z, a, c1, d, e, f, g, h1, i, ei, true_and, and_true, false_and, and_false, or_true, true_or, or_false, false_or, not_true_eq_false, not_false_eq_true, if_true, if_false]))
                          exact subH_refl _
                        · rcases Classical.propComplete (off % 4096#64 = 4#64) with j | j
                          · have ei := toInt_32 (a := (off - 2097152#64) / 4096#64) (by simpa only [plAt, not_true_eq_false, s4, m4, z, a, c1, d, e, f, g, h1, i, j, true_and, and_true, false_and, and_false, or_true, true_or, or_false, false_or, not_true_eq_false, not_false_eq_true, if_true, if_false] using hi)
                            (try simp (config := { maxSteps := 10000000 }) only [go_sem, seval, ho, d0, e2, plAt, s4, m4, z, a, c1, d, e, f, g, h1, i, j, ei, true_and, and_true, false_and, and_false, or_true, true_or, or_false, false_or, not_true_eq_false, not_false_eq_true, if_true, if_false]; repeat (simp (disch := omega) only [w64_d, ipos, ineg, dpos, dneg]; try simp (config := { maxSteps := 10000000 }) only [go_sem, seval, ho, d0, e2, plAt, s4, m4, z, a, c1, d, e, f, g, h1, i, j, ei, true_and, and_true, false_and, and_false, or_true, true_or, or_false, false_or, not_true_eq_false, not_false_eq_true, if_true, if_false]))
                            exact subH_refl _
                          · (try simp (config := { maxSteps := 10000000 }) only [go_sem, seval, ho, d0, e2, plAt, s4, m4, z, a, c1, d, e, f, g, h1, i, j, true_and, and_true, false_and, and_false, or_true, true_or, or_false, false_or, not_true_eq_false, not_false_eq_true, if_true, if_false]; repeat (simp (disch := omega) only [w64_d, ipos, ineg, dpos, dneg]; try simp (config := { maxSteps := 10000000 }) only [go_sem, seval, ho, d0, e2, plAt, s4, m4, z, a, c1, d, e, f, g, h1, i, j, true_and, and_true, false_and, and_false, or_true, true_or, or_false, false_or, not_true_eq_false, not_false_eq_true, if_true, if_false]))
                            exact subH_refl _
                      · (try simp (config := { maxSteps := 10000000 }) only [go_sem, seval, ho, d0, e2, plAt, s4, m4, z, a, c1, d, e, f, g, h1, true_and, and_true, false_and, and_false, or_true, true_or, or_false, false_or, not_true_eq_false, not_false_eq_true, if_true, if_false]; repeat (simp (disch := omega) only [w64_d, ipos, ineg, dpos, dneg]; try simp (config := { maxSteps := 10000000 }) only [go_sem, seval, ho, d0, e2, plAt, s4, m4, z, a, c1, d, e, f, g, h1, true_and, and_true, false_and, and_false, or_true, true_or, or_false, false_or, not_true_eq_false, not_false_eq_true, if_true, if_false]))
                        exact subH_refl _
                    · (try simp (config := { maxSteps := 10000000 }) only [go_sem, seval, ho, d0, e2, plAt, s4, m4, z, a, c1, d, e, f, g, true_and, and_true, false_and, and_false, or_true, true_or, or_false, false_or, not_true_eq_false, not_false_eq_true, if_true, if_false]; repeat (simp (disch := omega) only [w64_d, ipos, ineg, dpos, dneg]; try simp (config := { maxSteps := 10000000 }) only [go_sem, seval, ho, d0, e2, plAt, s4, m4, z, a, c1, d, e, f, g, true_and, and_true, false_and, and_false, or_true, true_or, or_false, false_or, not_true_eq_false, not_false_eq_true, if_true, if_false]))
                      exact subH_refl _
                · rcases Classical.propComplete (2097152#64 ≤ off) with g | g
                  · rcases Classical.propComplete (off < 2097152#64 + 4096#64 * BitVec.ofInt 64 (2 * c.n)) with h1 | h1
                    · rcases Classical.propComplete (off % 4096#64 = 0#64) with i | i
                      · have ei := toInt_32 (a := (off - 2097152#64) / 4096#64) (by simpa only [plAt, not_true_eq_false, s4, m4, z, a, c1, d, e, g, h1, i, true_and, and_true, false_and, and_false, or_true, true_or, or_false, false_or, not_true_eq_false, not_false_eq_true, if_true, if_false] using hi)
                        (try simp (config := { maxSteps := 10000000 }) only [go_sem, seval, ho, d0, e2, plAt, s4, m4, z, a, c1, d, e, g, h1, i, ei, true_and, and_true, false_and, and_false, or_true, true_or, or_false, false_or, not_true_eq_false, not_false_eq_true, if_true, if_false]; repeat (simp (disch := omega) only [w64_d, ipos, ineg, dpos, dneg]; try simp (config := { maxSteps := 10000000 }) only [go_sem, seval, ho, d0, e2, plAt, s4, m4, z, a, c1, d, e, g, h1, i, ei, true_and, and_true, false_and, and_false, or_true, true_or, or_false, false_or, not_true_eq_false, not_false_eq_true, if_true, if_false]))
                        exact subH_refl _
                      · rcases Classical.propComplete (off % 4096#64 = 4#64) with j | j
                        · have ei := toInt_32 (a := (off - 2097152#64) / 4096#64) (by simpa only [plAt, not_true_eq_false, s4, m4, z, a, c1, d, e, g, h1, i, j, true_and, and_true, false_and, and_false, or_true, true_or, or_false, false_or, not_true_eq_false, not_false_eq_true, if_true, if_false] using hi)
                          (try simp (config := { maxSteps := 10000000 }) only [go_sem, seval, ho, d0, e2, plAt, s4, m4, z, a, c1, d, e, g, h1, i, j, ei, true_and, and_true, false_and, and_false, or_true, true_or, or_false, false_or, not_true_eq_false, not_false_eq_true, if_true, if_false]; repeat (simp (disch := omega) only [w64_d, ipos, ineg, dpos, dneg]; try simp (config := { maxSteps := 10000000 }) only [go_sem, seval, ho, d0, e2, plAt, s4, m4, z, a, c1, d, e, g, h1, i, j, ei, true_and, and_true, false_and, and_false, or_true, true_or, or_false, false_or, not_true_eq_false, not_false_eq_true, if_true, if_false]))
                          exact subH_refl _
                        · (try simp (config := { maxSteps := 10000000 }) only [go_sem, seval, ho, d0, e2, plAt, s4, m4, z, a, c1, d, e, g, h1, i, j, true_and, and_true, false_and, and_false, or_true, true_or, or_false, false_or, not_true_eq_false, not_false_eq_true, if_true, if_false]; repeat (simp (disch := omega) only [w64_d, ipos, ineg, dpos, dneg]; try simp (config := { maxSteps := 10000000 }) only [go_sem, seval, ho, d0, e2, plAt, s4, m4, z, a, c1, d, e, g, h1, i, j, true_and, and_true, false_and, and_false, or_true, true_or, or_false, false_or, not_true_eq_false, not_false_eq_true, if_true, if_false]))
                          exact subH_refl _
                    · (try simp (config := { maxSteps := 10000000 }) only [go_sem, seval, ho, d0, e2, plAt, s4, m4, z, a, c1, d, e, g, h1, true_and, and_true, false_and, and_false, or_true, true_or, or_false, false_or, not_true_eq_false, not_false_eq_true, if_true, if_false]; repeat (simp (disch := omega) only [w64_d, ipos, ineg, dpos, dneg]; try simp (config := { maxSteps := 10000000 }) only [go_sem, seval, ho, d0, e2, plAt, s4, m4, z, a, c1, d, e, g, h1, true_and, and_true, false_and, and_false, or_true, true_or, or_false, false_or, not_true_eq_false, not_false_eq_true, if_true, if_false]))
                      exact subH_refl _
                  · (try simp (config := { maxSteps := 10000000 }) only [go_sem, seval, ho, d0, e2, plAt, s4, m4, z, a, c1, d, e, g, true_and, and_true, false_and, and_false, or_true, true_or, or_false, false_or, not_true_eq_false, not_false_eq_true, if_true, if_false]; repeat (simp (disch := omega) only [w64_d, ipos, ineg, dpos, dneg]; try simp (config := { maxSteps := 10000000 }) only [go_sem, seval, ho, d0, e2, plAt, s4, m4, z, a, c1, d, e, g, true_and, and_true, false_and, and_false, or_true, true_or, or_false, false_or, not_true_eq_false, not_false_eq_true, if_true, if_false]))
                    exact subH_refl _
              · rcases Classical.propComplete (2097152#64 ≤ off) with g | g
                · rcases Classical.propComplete (off < 2097152#64 + 4096#64 * BitVec.ofInt 64 (2 * c.n)) with h1 | h1
                  · rcases Classical.propComplete (off % 4096#64 = 0#64) with i | i
                    · have ei := toInt_32 (a := (off - 2097152#64) / 4096#64) (by simpa only [plAt, not_true_eq_false, s4, m4, z, a, c1, d, g, h1, i, true_and, and_true, false_and, and_false, or_true, true_or, or_false, false_or, not_true_eq_false, not_false_eq_true, if_true, if_false] using hi)
                      (try simp (config := { maxSteps := 10000000 }) only [go_sem, seval, ho, d0, e2, plAt, s4, m4, z, a, c1, d, g, h1, i, ei, true_and, and_true, false_and, and_false, or_true, true_or, or_false, false_or, not_true_eq_false, not_false_eq_true, if_true, if_false]; repeat (simp (disch := omega) only [w64_d, ipos, ineg, dpos, dneg]; try simp (config := { maxSteps := 10000000 }) only [go_sem, seval, ho, d0, e2, plAt, s4, m4, z, a, c1, d, g, h1, i, ei, true_and, and_true, false_and, and_false, or_true, true_or, or_false, false_or, not_true_eq_false, not_false_eq_true, if_true, if_false]))
                      exact subH_refl _
                    · rcases Classical.propComplete (off % 4096#64 = 4#64) with j | j
                      · have ei := toInt_32 (a := (off - 2097152#64) / 4096#64) (by simpa only [plAt, not_true_eq_false, s4, m4, z, a, c1, d, g, h1, i, j, true_and, and_true, false_and, and_false, or_true, true_or, or_false, false_or, not_true_eq_false, not_false_eq_true, if_true, if_false] using hi)
                        (try simp (config := { maxSteps := 10000000 }) only [go_sem, seval, ho, d0, e2, plAt, s4, m4, z, a, c1, d, g, h1, i, j, ei, true_and, and_true, false_and, and_false, or_true, true_or, or_false, false_or, not_true_eq_false, not_false_eq_true, if_true, if_false]; repeat (simp (disch := omega) only [w64_d, ipos, ineg, dpos, dneg]; try simp (config := { maxSteps := 10000000 }) only [go_sem, seval, ho, d0, e2, plAt, s4, m4, z, a, c1, d, g, h1, i, j, ei, true_and, and_true, false_and, and_false, or_true, true_or, or_false, false_or, not_true_eq_false, not_false_eq_true, if_true, if_false]))
                        exact subH_refl _
                      · (try simp (config := { maxSteps := 10000000 }) only [go_sem, seval, ho, d0, e2, plAt, s4, m4, z, a, c1, d, g, h1, i, j, true_and, and_true, false_and, and_false, or_true, true_or, or_false, false_or, not_true_eq_false, not_false_eq_true, if_true, if_false]; repeat (simp (disch := omega) only [w64_d, ipos, ineg, dpos, dneg]; try simp (config := { maxSteps := 10000000 }) only [go_sem, seval, ho, d0, e2, plAt, s4, m4, z, a, c1, d, g, h1, i, j, true_and, and_true, false_and, and_false, or_true, true_or, or_false, false_or, not_true_eq_false, not_false_eq_true, if_true, if_false]))
                        exact subH_refl _
                  · (try simp (config := { maxSteps := 10000000 }) only [go_sem, seval, ho, d0, e2, plAt, s4, m4, z, a, c1, d, g, h1, true_and, and_true, false_and, and_false, or_true, true_or, or_false, false_or, not_true_eq_false, not_false_eq_true, if_true, if_false]; repeat (simp (disch := omega) only [w64_d, ipos, ineg, dpos, dneg]; try simp (config := { maxSteps := 10000000 }) only [go_sem, seval, ho, d0, e2, plAt, s4, m4, z, a, c1, d, g, h1, true_and, and_true, false_and, and_false, or_true, true_or, or_false, false_or, not_true_eq_false, not_false_eq_true, if_true, if_false]))
                    exact subH_refl _
                · (try simp (config := { maxSteps := 10000000 }) only [go_sem, seval, ho, d0, e2, plAt, s4, m4, z, a, c1, d, g, true_and, and_true, false_and, and_false, or_true, true_or, or_false, false_or, not_true_eq_false, not_false_eq_true, if_true, if_false]; repeat (simp (disch := omega) only [w64_d, ipos, ineg, dpos, dneg]; try simp (config := { maxSteps := 10000000 }) only [go_sem, seval, ho, d0, e2, plAt, s4, m4, z, a, c1, d, g, true_and, and_true, false_and, and_false, or_true, true_or, or_false, false_or, not_true_eq_false, not_false_eq_true, if_true, if_false]))
                  exact subH_refl _
      · (try simp (config := { maxSteps := 10000000 }) only [go_sem, seval, ho, d0, e2, plAt, s4, m4, true_and, and_true, false_and, and_false, or_true, true_or, or_false, false_or, not_true_eq_false, not_false_eq_true, if_true, if_false]; repeat (simp (disch := omega) only [w64_d, ipos, ineg, dpos, dneg]; try simp (config := { maxSteps := 10000000 }) only [go_sem, seval, ho, d0, e2, plAt, s4, m4, true_and, and_true, false_and, and_false, or_true, true_or, or_false, false_or, not_true_eq_false, not_false_eq_true, if_true, if_false]))
        exact subH_refl _
    · (try simp (config := { maxSteps := 10000000 }) only [go_sem, seval, ho, d0, e2, plAt, s4, true_and, and_true, false_and, and_false, or_true, true_or, or_false, false_or, not_true_eq_false, not_false_eq_true, if_true, if_false]; repeat (simp (disch := omega) only [w64_d, ipos, ineg, dpos, dneg]; try simp (config := { maxSteps := 10000000 }) only [go_sem, seval, ho, d0, e2, plAt, s4, true_and, and_true, false_and, and_false, or_true, true_or, or_false, false_or, not_true_eq_false, not_false_eq_true, if_true, if_false]))
      exact subH_refl _
  · simp at h
end
end Go.Proofs.Ytfddaaplnnlfoaa
