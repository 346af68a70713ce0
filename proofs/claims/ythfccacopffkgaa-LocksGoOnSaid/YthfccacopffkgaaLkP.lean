/- Layer 12: a job's step, as the document says: contract. -/
import Derived.Test.YthfccacopffkgaaLkO
namespace Go.Proofs.Ythfccacopffkgaa
open Go.Am
set_option linter.unusedSimpArgs false
set_option linter.unusedVariables false
noncomputable section
set_option maxRecDepth 100000

section
variable {H : AH}
theorem xst_fin {K K' : AH} {id : Nat} {Y : List Ly} {S : LS} {o1 o2 : AObj} (h : XI H id Y) (hs : XStep (H ++ [o1, o2]) K id Y S) (hl : K'.length = K.length) (hk : ∀ i, i ≠ H.length → i ≠ H.length + 1 → hg K' i = hg K i) : XStep H K' id Y S := by
  obtain ⟨Z, z1, z2, z3⟩ := hs
  have lK := z2.len
  simp only [List.length_append, List.length_cons, List.length_nil] at lK
  have lid := h.lt
  have yq : ∀ z ∈ Z, ∀ i, sidI z.x = some i → i ≠ H.length ∧ i ≠ H.length + 1 := fun z hz i hi => by
    rcases z2.ids z hz i hi with ⟨y, hy, g⟩ | g
    · have := (isx_lt (h.q y hy) g).1; omega
    · simp only [List.length_append, List.length_cons, List.length_nil] at g; omega
  refine ⟨Z, z1.frame (hk _ (by omega) (by omega)) fun z hz i hi => hk i (yq z hz i hi).1 (yq z hz i hi).2, ⟨by omega, z2.n, fun i hi hne => ?_, fun z hz i hi => ?_⟩, z3⟩
  · rw [hk i (by omega) (by omega), z2.old i (by simp; omega) hne, hg_lt' hi]
  · rcases z2.ids z hz i hi with g | g
    · exact .inl g
    · simp only [List.length_append, List.length_cons, List.length_nil] at g; exact .inr (by omega)
def rsV (nx : Sc) (S : LS) (w : Int) (L : List Int) (s : Nat) : AV := .t [.g [nx, .i (stN S w L s : Nat)], .c (.i (stV S w L s)), .c (.b (decide (s = L.length)))]
def q_rlstep (args : List AV) (H : AH) (v : AV) (H1 : AH) : Prop := ∀ nx L (s : Nat) id Y w, args = [.g [nx, .i s], xV id Y, .c (.i w)] → XI H id Y → slP dcI H nx = some L → sidI nx ≠ some id → OkS (lyS Y) → OkQ (lyS Y) → s ≤ 2 * L.length + 1 → L.length ≤ 1000 → v = rsV nx (lyS Y) w L s ∧ XStep H H1 id Y (stS (lyS Y) w L s)
def s_rlstep : List AV → AH → Option (AV × AH) := frS Try.prog [(19, .fp s_rltake), (17, .fp s_rldrop)] 27 q_rlstep
set_option maxRecDepth 100000 in
set_option maxHeartbeats 2000000 in
theorem ok_rlstep : FpOk Try.prog 27 s_rlstep := frS_ok hmix (TabOk.cons (e := .fp s_rltake) ok_rltake (TabOk.cons (e := .fp s_rldrop) ok_rldrop TabOk.nil)) Try.func27 rfl Try.results27 Try.ntmps27 (by kernel_rfl) (by kernel_rfl)
theorem s_rlstep_ex {id : Nat} {Y : List Ly} {nx : Sc} {L : List Int} {s : Nat} {w : Int} (h : XI H id Y) (hL : slP dcI H nx = some L) (hnx : sidI nx ≠ some id) (hS : OkS (lyS Y)) (hQ : OkQ (lyS Y)) (hs : s ≤ 2 * L.length + 1) (hl : L.length ≤ 1000) (hb : nx.bel H.length = true) :
    ∃ H1, s_rlstep [.g [nx, .i s], xV id Y, .c (.i w)] H = some (rsV nx (lyS Y) w L s, H1) ∧ H.length ≤ H1.length ∧ XStep H H1 id Y (stS (lyS Y) w L s) := by
  have : ∃ v H1, s_rlstep [.g [nx, .i s], xV id Y, .c (.i w)] H = some (v, H1) ∧ H.length ≤ H1.length ∧ q_rlstep [.g [nx, .i s], xV id Y, .c (.i w)] H v H1 := by
    have post : ∀ {v H1}, v = rsV nx (lyS Y) w L s → XStep H H1 id Y (stS (lyS Y) w L s) → q_rlstep [.g [nx, .i s], xV id Y, .c (.i w)] H v H1 := by
      intro v H1 h1 h2 nx' L' s' id' Z w' he hZ hL' _ _ _ _ _
      simp only [xV, List.cons.injEq, AV.g.injEq, AV.c.injEq, Sc.sl.injEq, Sc.i.injEq, and_true] at he
      obtain ⟨⟨rfl, e1⟩, ⟨rfl, _⟩, rfl⟩ := he
      obtain rfl : s = s' := by omega
      rw [← h.uniq hZ, ← slP_uniq hL hL']
      exact ⟨h1, h2⟩
    have lid := h.lt
    have sidx : ∀ i, sidI nx = some i → i < H.length := fun i hi => by
      cases nx <;> simp [sidI] at hi
      subst hi
      simpa [Sc.bel] using hb
    have one : Sc.one nx = true := by rcases slP_inv gI_d hL with ⟨rfl, _⟩ | ⟨i, v, rfl, _⟩ <;> rfl
    have hLX : ∀ X, slP dcI (H ++ X) nx = some L := fun X => slP_frame hL fun i hi => hg_lt' (sidx i hi)
    have xl := slP_len hL
    have xs := slP_isS hL
    have nc : ∀ e : AV, (AV.c nx).cells = some [nx] := fun _ => by rcases slP_inv gI_d hL with ⟨rfl, _⟩ | ⟨i, v, rfl, _⟩ <;> rfl
    have e2n : w64 (2 * (L.length : Int)) = 2 * (L.length : Int) := w64_d (by omega) (by omega)
    have es1 : w64 ((s : Int) + 1) = ((s + 1 : Nat) : Int) := by rw [w64_d (by omega) (by omega)]; omega
    have hX2 : ∀ o1 o2 : AObj, XI (H ++ [o1, o2]) id Y := fun o1 o2 => h.app _
    unfold xV
    by_cases c1 : 2 * L.length < s
    · have c1' := eq_true (show (2 * (L.length : Int) < (s : Int)) by omega)
      have ev1 : rsV nx (lyS Y) w L s = .t [.g [nx, .i s], .c (.i 4), .c (.b false)] := by
        unfold rsV stN stV
        rw [if_pos c1, if_pos c1, decide_eq_false (by omega)]
      have es : stS (lyS Y) w L s = lyS Y := by unfold stS; rw [if_pos c1]
      unfold s_rlstep
      apply frS_ex (v := rsV nx (lyS Y) w L s) (H1 := H ++ [.own [nx, .i s], .own [nx, .i s]]) Try.func27 rfl Try.results27 Try.ntmps27 (by simp only [List.length_cons, List.length_nil]; decide)
      · intro _ _
        rw [ev1]
        rcases slP_inv gI_d hL with ⟨rfl, rfl⟩ | ⟨i, v, rfl, hv, hlen, hcs⟩
        · simp only [List.length_nil] at hs c1
          obtain rfl : s = 1 := by omega
          (try simp (config := { maxSteps := 10000000 }) only [go_sem, seval]; repeat (simp (disch := omega) only [w64_d, ipos, ineg, dpos, dneg]; try simp (config := { maxSteps := 10000000 }) only [go_sem, seval]))
          exact fin_same
        · (try simp (config := { maxSteps := 10000000 }) only [go_sem, seval, e2n, c1']; repeat (simp (disch := omega) only [w64_d, ipos, ineg, dpos, dneg]; try simp (config := { maxSteps := 10000000 }) only [go_sem, seval, e2n, c1']))
          exact fin_same
      · simp
      · exact post rfl ⟨Y, h.app _, ⟨by simp, rfl, fun i hi _ => hg_lt' hi, fun z hz i hi => .inl ⟨z, hz, hi⟩⟩, es.symm⟩
    have c1' : ¬ ((2 * (L.length : Int) < (s : Int))) := by omega
    by_cases c2 : s < L.length
    · have c2' := eq_true (show ((s : Int) < (L.length : Int)) by omega)
      obtain ⟨a, ha⟩ : ∃ a, L[s]? = some a := ⟨_, List.getElem?_eq_getElem c2⟩
      have gd : L.getD s 0 = a := by rw [List.getD_eq_getElem?_getD, ha]; rfl
      rcases slP_inv gI_d hL with ⟨rfl, rfl⟩ | ⟨i, v, rfl, hv, hlen, hcs⟩
      · simp at c2
      have li : i < H.length := sidx i rfl
      have b2 := slP_get hcs ha
      have b1 : s + 1 ≤ (hg H i).cells.length := by omega
      have hv' := hv.symm
      have giX : ∀ X, hg (H ++ X) i = hg H i := fun X => hg_lt' li
      have s0 : (0 : Int) ≤ (s : Int) := by omega
      obtain ⟨K, t1, t2, t3⟩ := s_rltake_ex (hX2 (.own [.sl i 0 v L.length, .i s]) (.own [.nils, .i 0])) hS hQ w a
      have t3' := t3
      obtain ⟨Z, z1, z2, z3⟩ := t3'
      unfold xV at t1
      simp only [List.length_append, List.length_cons, List.length_nil] at t2
      have k0 : hg K H.length = .own [.sl i 0 v L.length, .i s] := by rw [z2.old _ (by simp) (by omega), hg_len]; rfl
      have k1 : hg K (H.length + 1) = .own [.nils, .i 0] := by rw [z2.old _ (by simp) (by omega), hg_len_add]; rfl
      have g1 : ∀ o, hg (K.set H.length o) H.length = o := fun o => hg_set_same (by omega)
      have g2 : ∀ o, hg (K.set H.length o) (H.length + 1) = .own [.nils, .i 0] := fun o => by rw [hg_set_ne' (by omega), k1]
      have g3 : ∀ o p, hg ((K.set H.length o).set (H.length + 1) p) (H.length + 1) = p := fun o p => hg_set_same (by simp; omega)
      have g4 : ∀ p, hg (K.set (H.length + 1) p) (H.length + 1) = p := fun p => hg_set_same (by omega)
      have es : stS (lyS Y) w L s = tkS (lyS Y) w a := by unfold stS; rw [if_neg c1, if_pos c2, gd]
      cases hb : tkB (lyS Y) w a with
      | true =>
        rw [hb] at t1
        have ev1 : rsV (.sl i 0 v L.length) (lyS Y) w L s = .t [.g [.sl i 0 v L.length, .i ((s + 1 : Nat) : Int)], .c (.i 1), .c (.b false)] := by
          unfold rsV stN stV
          rw [if_neg c1, if_pos c2, if_neg c1, if_pos c2, gd, hb, if_pos rfl, if_pos rfl, decide_eq_false (by omega)]
        unfold s_rlstep
        apply frS_ex (v := rsV (.sl i 0 v L.length) (lyS Y) w L s) (H1 := (K.set H.length (.own [.sl i 0 v L.length, .i ((s + 1 : Nat) : Int)])).set (H.length + 1) (.own [.sl i 0 v L.length, .i ((s + 1 : Nat) : Int)])) Try.func27 rfl Try.results27 Try.ntmps27 (by simp only [List.length_cons, List.length_nil]; decide)
        · intro _ _
          rw [ev1]
          (try simp (config := { maxSteps := 10000000 }) only [go_sem, seval, xl, xs, as_len_y, e2n, c1', c2', s0, b1, b2, gI, hv', giX, t1, k0, k1, g1, g2, g3, es1, Int.toNat_natCast]; repeat (simp (disch := omega) only [w64_d, ipos, ineg, dpos, dneg]; try simp (config := { maxSteps := 10000000 }) only [go_sem, seval, xl, xs, as_len_y, e2n, c1', c2', s0, b1, b2, gI, hv', giX, t1, k0, k1, g1, g2, g3, es1, Int.toNat_natCast]))
          exact fin_same
        · simp; omega
        · exact post rfl (xst_fin h (by rw [es]; exact t3) (by simp) fun j h1 h2 => by rw [hg_set_ne' (fun c => h2 c.symm), hg_set_ne' (fun c => h1 c.symm)])
      | false =>
        rw [hb] at t1
        have ev1 : rsV (.sl i 0 v L.length) (lyS Y) w L s = .t [.g [.sl i 0 v L.length, .i s], .c (.i 0), .c (.b false)] := by
          unfold rsV stN stV
          rw [if_neg c1, if_pos c2, if_neg c1, if_pos c2, gd, hb, if_neg (by decide), if_neg (by decide), decide_eq_false (by omega)]
        unfold s_rlstep
        apply frS_ex (v := rsV (.sl i 0 v L.length) (lyS Y) w L s) (H1 := K.set (H.length + 1) (.own [.sl i 0 v L.length, .i s])) Try.func27 rfl Try.results27 Try.ntmps27 (by simp only [List.length_cons, List.length_nil]; decide)
        · intro _ _
          rw [ev1]
          (try simp (config := { maxSteps := 10000000 }) only [go_sem, seval, xl, xs, as_len_y, e2n, c1', c2', s0, b1, b2, gI, hv', giX, t1, k0, k1, g4, Int.toNat_natCast]; repeat (simp (disch := omega) only [w64_d, ipos, ineg, dpos, dneg]; try simp (config := { maxSteps := 10000000 }) only [go_sem, seval, xl, xs, as_len_y, e2n, c1', c2', s0, b1, b2, gI, hv', giX, t1, k0, k1, g4, Int.toNat_natCast]))
          exact fin_same
        · simp; omega
        · exact post rfl (xst_fin h (by rw [es]; exact t3) (by simp) fun j h1 h2 => by rw [hg_set_ne' (fun c => h2 c.symm)])
    have c2' : ¬ ((s : Int) < (L.length : Int)) := by omega
    by_cases c3 : s = L.length
    · have c3' := eq_true (show ((s : Int) = (L.length : Int)) by omega)
      have es : stS (lyS Y) w L s = lyS Y := by unfold stS; rw [if_neg c1, if_neg c2, if_pos c3]
      have fin : ∀ X, XStep H (H ++ X) id Y (stS (lyS Y) w L s) := fun X => ⟨Y, h.app _, ⟨by simp, rfl, fun i hi _ => hg_lt' hi, fun z hz i hi => .inl ⟨z, hz, hi⟩⟩, es.symm⟩
      have ev1 : rsV nx (lyS Y) w L s = .t [.g [nx, .i ((s + 1 : Nat) : Int)], .c (.i (if L.length = 0 then 4 else 2)), .c (.b true)] := by
        unfold rsV stN stV
        rw [if_neg c1, if_neg c2, if_neg c1, if_neg c2, if_pos c3, decide_eq_true c3]
      by_cases hz : L.length = 0
      · have hz' := eq_true (show ((L.length : Nat) : Int) = 0 by omega)
        rw [if_pos hz] at ev1
        unfold s_rlstep
        apply frS_ex (v := rsV nx (lyS Y) w L s) (H1 := H ++ [.own [nx, .i ((s + 1 : Nat) : Int)], .own [nx, .i ((s + 1 : Nat) : Int)]]) Try.func27 rfl Try.results27 Try.ntmps27 (by simp only [List.length_cons, List.length_nil]; decide)
        · intro _ _
          rw [ev1]
          rcases slP_inv gI_d hL with ⟨rfl, rfl⟩ | ⟨i, v, rfl, hv, hlen, hcs⟩
          · simp only [List.length_nil] at c3
            subst c3
            (try simp (config := { maxSteps := 10000000 }) only [go_sem, seval]; repeat (simp (disch := omega) only [w64_d, ipos, ineg, dpos, dneg]; try simp (config := { maxSteps := 10000000 }) only [go_sem, seval]))
            exact fin_same
          · (try simp (config := { maxSteps := 10000000 }) only [go_sem, seval, e2n, c1', c2', c3', hz', es1]; repeat (simp (disch := omega) only [w64_d, ipos, ineg, dpos, dneg]; try simp (config := { maxSteps := 10000000 }) only [go_sem, seval, e2n, c1', c2', c3', hz', es1]))
            exact fin_same
        · simp
        · exact post rfl (fin _)
      · have hz' : ¬ (((L.length : Nat) : Int) = 0) := by omega
        rw [if_neg hz] at ev1
        unfold s_rlstep
        apply frS_ex (v := rsV nx (lyS Y) w L s) (H1 := H ++ [.own [nx, .i ((s + 1 : Nat) : Int)], .own [nx, .i ((s + 1 : Nat) : Int)]]) Try.func27 rfl Try.results27 Try.ntmps27 (by simp only [List.length_cons, List.length_nil]; decide)
        · intro _ _
          rw [ev1]
          rcases slP_inv gI_d hL with ⟨rfl, rfl⟩ | ⟨i, v, rfl, hv, hlen, hcs⟩
          · simp at hz
          · (try simp (config := { maxSteps := 10000000 }) only [go_sem, seval, e2n, c1', c2', c3', hz', es1]; repeat (simp (disch := omega) only [w64_d, ipos, ineg, dpos, dneg]; try simp (config := { maxSteps := 10000000 }) only [go_sem, seval, e2n, c1', c2', c3', hz', es1]))
            exact fin_same
        · simp
        · exact post rfl (fin _)
    · have c3' : ¬ ((s : Int) = (L.length : Int)) := by omega
      obtain ⟨j, hj⟩ : ∃ j : Nat, j = 2 * L.length - s := ⟨_, rfl⟩
      have jl : j < L.length := by omega
      obtain ⟨a, ha⟩ : ∃ a, L[j]? = some a := ⟨_, List.getElem?_eq_getElem jl⟩
      have gd : L.getD (2 * L.length - s) 0 = a := by rw [← hj, List.getD_eq_getElem?_getD, ha]; rfl
      rcases slP_inv gI_d hL with ⟨rfl, rfl⟩ | ⟨i, v, rfl, hv, hlen, hcs⟩
      · simp at jl
      have li : i < H.length := sidx i rfl
      have b2 := slP_get hcs ha
      have b1 : j + 1 ≤ (hg H i).cells.length := by omega
      have hv' := hv.symm
      have giX : ∀ X, hg (H ++ X) i = hg H i := fun X => hg_lt' li
      have ej : w64 (2 * (L.length : Int) - (s : Int)) = (j : Int) := by rw [w64_d (by omega) (by omega)]; omega
      have j0 : (0 : Int) ≤ (j : Int) := by omega
      have jI : (j : Int) < (L.length : Int) := by omega
      obtain ⟨K, t1, t2, t3⟩ := s_rldrop_ex (hX2 (.own [.sl i 0 v L.length, .i s]) (.own [.nils, .i 0])) hQ w a
      have t3' := t3
      obtain ⟨Z, z1, z2, z3⟩ := t3'
      unfold xV at t1
      simp only [List.length_append, List.length_cons, List.length_nil] at t2
      have k0 : hg K H.length = .own [.sl i 0 v L.length, .i s] := by rw [z2.old _ (by simp) (by omega), hg_len]; rfl
      have k1 : hg K (H.length + 1) = .own [.nils, .i 0] := by rw [z2.old _ (by simp) (by omega), hg_len_add]; rfl
      have g1 : ∀ o, hg (K.set H.length o) H.length = o := fun o => hg_set_same (by omega)
      have g2 : ∀ o, hg (K.set H.length o) (H.length + 1) = .own [.nils, .i 0] := fun o => by rw [hg_set_ne' (by omega), k1]
      have g3 : ∀ o p, hg ((K.set H.length o).set (H.length + 1) p) (H.length + 1) = p := fun o p => hg_set_same (by simp; omega)
      have es : stS (lyS Y) w L s = drS (lyS Y) w a := by unfold stS; rw [if_neg c1, if_neg c2, if_neg c3, gd]
      by_cases c4 : 2 * L.length < s + 1
      · have c4' := eq_true (show (2 * (L.length : Int) < ((s + 1 : Nat) : Int)) by omega)
        have ev1 : rsV (.sl i 0 v L.length) (lyS Y) w L s = .t [.g [.sl i 0 v L.length, .i ((s + 1 : Nat) : Int)], .c (.i 4), .c (.b false)] := by
          unfold rsV stN stV
          rw [if_neg c1, if_neg c2, if_neg c1, if_neg c2, if_neg c3, if_pos c4, decide_eq_false c3]
        unfold s_rlstep
        apply frS_ex (v := rsV (.sl i 0 v L.length) (lyS Y) w L s) (H1 := (K.set H.length (.own [.sl i 0 v L.length, .i ((s + 1 : Nat) : Int)])).set (H.length + 1) (.own [.sl i 0 v L.length, .i ((s + 1 : Nat) : Int)])) Try.func27 rfl Try.results27 Try.ntmps27 (by simp only [List.length_cons, List.length_nil]; decide)
        · intro _ _
          rw [ev1]
          (try simp (config := { maxSteps := 10000000 }) only [go_sem, seval, xl, xs, as_len_y, e2n, c1', c2', c3', c4', ej, j0, jI, b1, b2, gI, hv', giX, t1, k0, k1, g1, g2, g3, es1, Int.toNat_natCast]; repeat (simp (disch := omega) only [w64_d, ipos, ineg, dpos, dneg]; try simp (config := { maxSteps := 10000000 }) only [go_sem, seval, xl, xs, as_len_y, e2n, c1', c2', c3', c4', ej, j0, jI, b1, b2, gI, hv', giX, t1, k0, k1, g1, g2, g3, es1, Int.toNat_natCast]))
          exact fin_same
        · simp; omega
        · exact post rfl (xst_fin h (by rw [es]; exact t3) (by simp) fun j h1 h2 => by rw [hg_set_ne' (fun c => h2 c.symm), hg_set_ne' (fun c => h1 c.symm)])
      · have c4' : ¬ ((2 * (L.length : Int) < ((s + 1 : Nat) : Int))) := by omega
        have ev1 : rsV (.sl i 0 v L.length) (lyS Y) w L s = .t [.g [.sl i 0 v L.length, .i ((s + 1 : Nat) : Int)], .c (.i 3), .c (.b false)] := by
          unfold rsV stN stV
          rw [if_neg c1, if_neg c2, if_neg c1, if_neg c2, if_neg c3, if_neg c4, decide_eq_false c3]
        unfold s_rlstep
        apply frS_ex (v := rsV (.sl i 0 v L.length) (lyS Y) w L s) (H1 := (K.set H.length (.own [.sl i 0 v L.length, .i ((s + 1 : Nat) : Int)])).set (H.length + 1) (.own [.sl i 0 v L.length, .i ((s + 1 : Nat) : Int)])) Try.func27 rfl Try.results27 Try.ntmps27 (by simp only [List.length_cons, List.length_nil]; decide)
        · intro _ _
          rw [ev1]
          (try simp (config := { maxSteps := 10000000 }) only [go_sem, seval, xl, xs, as_len_y, e2n, c1', c2', c3', c4', ej, j0, jI, b1, b2, gI, hv', giX, t1, k0, k1, g1, g2, g3, es1, Int.toNat_natCast]; repeat (simp (disch := omega) only [w64_d, ipos, ineg, dpos, dneg]; try simp (config := { maxSteps := 10000000 }) only [go_sem, seval, xl, xs, as_len_y, e2n, c1', c2', c3', c4', ej, j0, jI, b1, b2, gI, hv', giX, t1, k0, k1, g1, g2, g3, es1, Int.toNat_natCast]))
          exact fin_same
        · simp; omega
        · exact post rfl (xst_fin h (by rw [es]; exact t3) (by simp) fun j h1 h2 => by rw [hg_set_ne' (fun c => h2 c.symm), hg_set_ne' (fun c => h1 c.symm)])
  obtain ⟨v, H1, h1, hlen, h2⟩ := this
  obtain ⟨rfl, h3⟩ := h2 nx L s id Y w rfl h hL hnx hS hQ hs hl
  exact ⟨H1, h1, hlen, h3⟩
end
end
end Go.Proofs.Ythfccacopffkgaa
