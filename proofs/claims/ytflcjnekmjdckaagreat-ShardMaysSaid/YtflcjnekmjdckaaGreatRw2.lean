/- Layer 13: a table in a struct that is changed, more: contracts. -/
import Derived.Test.YtflcjnekmjdckaaGreatRw1
namespace Go.Proofs.YtflcjnekmjdckaaGreat
open Go.Am
set_option linter.unusedSimpArgs false
set_option linter.unusedVariables false
noncomputable section

def s_tbclear (args : List AV) (H : AH) : Option (AV × AH) :=
  match args with
  | [.c x, .c (.i h)] => (tabQ H x).map fun R => (.c (.b (at8 R h).is), setQ H x (setT R h z0))
  | _ => none
theorem s_tbclear_eq {H : AH} {x : Sc} {h : Int} {R : List Sl} (hR : tabQ H x = some R) : s_tbclear [.c x, .c (.i h)] H = some (.c (.b (at8 R h).is), setQ H x (setT R h z0)) := by simp only [s_tbclear, hR, Option.map_some]
theorem len_tbclear (args : List AV) (H : AH) (v : AV) (H1 : AH) (h : s_tbclear args H = some (v, H1)) : H.length ≤ H1.length := by
  unfold s_tbclear at h
  split at h
  · rw [Option.map_eq_some_iff] at h
    obtain ⟨R, _, h⟩ := h
    simp only [Prod.mk.injEq] at h
    rw [← h.2, setQ_len]; exact Nat.le_refl _
  · simp at h
set_option maxRecDepth 100000 in
set_option maxHeartbeats 2000000 in
theorem ok_tbclear : FpOk Tryz.prog 29 s_tbclear := by
  refine fp_ok (s := s_tbclear) (tab := [(55, .pu s_vin)]) hmix (TabOk.cons (e := .pu s_vin) ok_vin TabOk.nil) Tryz.func29 rfl Tryz.results29 Tryz.ntmps29 (by kernel_rfl) (by kernel_rfl) len_tbclear ?_
  intro args H v H1 h hargs hH
  unfold s_tbclear at h
  split at h
  · rename_i x h0
    rw [Option.map_eq_some_iff] at h
    obtain ⟨R, hR, h⟩ := h
    simp only [Prod.mk.injEq] at h
    obtain ⟨rfl, rfl⟩ := h
    refine ⟨by simp only [List.length_cons, List.length_nil]; decide, ?_⟩
    obtain ⟨id, A, B, rfl, ho, hl⟩ := tabQ_inv hR
    have lid : id < H.length := hg_lt (by rw [ho]; rfl)
    have hb := fun S => setQ_bel (S := S) ho hl hH
    simp only [setQ_of ho hl] at hb ⊢
    cases hi : in8 h0
    · have e : setT R h0 z0 = R := by unfold setT; rw [if_neg (by rw [hi]; decide)]
      have e2 : at8 R h0 = z0 := by unfold at8; rw [if_neg (by rw [hi]; decide)]
      rw [e, set_self ho lid, e2]
      (try simp (config := { maxSteps := 10000000 }) only [go_sem, seval, s_vin_eq, hi, z0]; repeat (simp (disch := omega) only [w64_d, ipos, ineg, dpos, dneg]; try simp (config := { maxSteps := 10000000 }) only [go_sem, seval, s_vin_eq, hi, z0]))
      exact fin_fp rfl (subH_refl _) hH (Nat.le_refl _)
    · obtain ⟨k, rfl, hk⟩ := in8_nat hi
      obtain ⟨y, hy⟩ := sl_some hl hk
      obtain ⟨c0, c1, c2⟩ := sl_cell hy
      have e0 := at8_k hk hy
      have e : setT R k z0 = R.set k z0 := by unfold setT; rw [if_pos hi]; rfl
      have lt := tabC_l hl
      have d0 : (A ++ (tabC R ++ B)).getD (A.length + k * 2) .any = .b y.is := by rw [getD_mid (by omega), c0]
      have w1 : wr (A ++ (tabC R ++ B)) (A.length + k * 2) [.b false, .u 0#64] = A ++ (tabC (R.set k z0) ++ B) := by
        rw [wr_mid (by simp; omega)]
        have := wr_tab (R := R) (k := k) (y := z0) (by omega)
        simp only [z0] at this ⊢
        rw [this]
      have q : A.length + k * 2 + 2 ≤ (A ++ (tabC R ++ B)).length := by simp only [List.length_append, lt]; omega
      have hb := hb (R.set k z0)
      rw [e, e0]
      generalize A ++ (tabC (R.set k z0) ++ B) = cs2 at *
      generalize A ++ (tabC R ++ B) = cs at *
      generalize A.length = off at *
      (try simp (config := { maxSteps := 10000000 }) only [go_sem, seval, s_vin_eq, hi, ho, q, d0, w1, Int.toNat_natCast]; repeat (simp (disch := omega) only [w64_d, ipos, ineg, dpos, dneg]; try simp (config := { maxSteps := 10000000 }) only [go_sem, seval, s_vin_eq, hi, ho, q, d0, w1, Int.toNat_natCast]))
      exact fin_fp rfl (subH_refl _) hb (by simp)
  · simp at h
def s_tbkill (args : List AV) (H : AH) : Option (AV × AH) :=
  match args with
  | [.c x, .c (.u l), .c (.i but)] => (tabQ H x).map fun R => (.c (.i (cntN R l but 8)), setQ H x (killN R l but 8))
  | _ => none
theorem s_tbkill_eq {H : AH} {x : Sc} {l : BitVec 64} {but : Int} {R : List Sl} (hR : tabQ H x = some R) : s_tbkill [.c x, .c (.u l), .c (.i but)] H = some (.c (.i (cntN R l but 8)), setQ H x (killN R l but 8)) := by simp only [s_tbkill, hR, Option.map_some]
theorem len_tbkill (args : List AV) (H : AH) (v : AV) (H1 : AH) (h : s_tbkill args H = some (v, H1)) : H.length ≤ H1.length := by
  unfold s_tbkill at h
  split at h
  · rw [Option.map_eq_some_iff] at h
    obtain ⟨R, _, h⟩ := h
    simp only [Prod.mk.injEq] at h
    rw [← h.2, setQ_len]; exact Nat.le_refl _
  · simp at h
set_option maxRecDepth 100000 in
set_option maxHeartbeats 2000000 in
theorem ok_tbkill : FpOk Tryz.prog 48 s_tbkill := by
  refine fp_ok (s := s_tbkill) (tab := [(28, .fq s_tbhas), (29, .fp s_tbclear)]) hmix (TabOk.cons (e := .fq s_tbhas) ok_tbhas (TabOk.cons (e := .fp s_tbclear) ok_tbclear TabOk.nil)) Tryz.func48 rfl Tryz.results48 Tryz.ntmps48 (by kernel_rfl) (by kernel_rfl) len_tbkill ?_
  intro args H v H1 h hargs hH
  unfold s_tbkill at h
  split at h
  · rename_i x l but
    rw [Option.map_eq_some_iff] at h
    obtain ⟨R, hR, h⟩ := h
    simp only [Prod.mk.injEq] at h
    obtain ⟨rfl, rfl⟩ := h
    refine ⟨by simp only [List.length_cons, List.length_nil]; decide, ?_⟩
    obtain ⟨id, A, B, rfl, ho, hl⟩ := tabQ_inv hR
    have lid : id < H.length := hg_lt (by rw [ho]; rfl)
    have hb := fun S => setQ_bel (S := S) ho hl hH
    have bA : A.length = A.length := rfl
    let O : List Sl → AH := fun L => H.set id (.own (A ++ (tabC L ++ B)))
    have gO : ∀ L, hg (O L) id = .own (A ++ (tabC L ++ B)) := fun L => hg_set_same lid
    have tO : ∀ L, L.length = 8 → tabQ (O L) (.p id A.length 0) = some L := fun L h => tabQ_of (gO L) h
    have pO : ∀ L M, L.length = 8 → setQ (O L) (.p id A.length 0) M = O M := fun L M h => by rw [setQ_of (gO L) h]; exact List.set_set ..
    have lO : ∀ L, (O L).length = H.length := fun L => List.length_set
    have bO : ∀ L, belH (O L) = true := fun L => by have := hb L; rw [setQ_of ho hl] at this; exact this
    have h1 : O R = H := set_self ho lid
    have fin : setQ H (.p id A.length 0) (killN R l but 8) = O (killN R l but 8) := setQ_of ho hl
    rw [fin]
    clear_value O
    clear hb
    generalize A.length = off at *
    (try simp (config := { maxSteps := 10000000 }) only [go_sem, seval]; repeat (simp (disch := omega) only [w64_d, ipos, ineg, dpos, dneg]; try simp (config := { maxSteps := 10000000 }) only [go_sem, seval]))
    refine arun_for 8 (fun k => ([(0, .c (.p id off 0)), (1, .c (.u l)), (2, .c (.i but)), (7, .c (.i (cntN R l but k))), (9, .c (.i k))], O (killN R l but k))) ?_ fun k hk => ?_
    · rw [show killN R l but 0 = R from rfl, h1]
      exact Wk.wk (Nat.le_refl _) (by simp [Am.get, cntN]) (by simp [AV.bel, Sc.bel, lid]) (subH_refl _) hH
    · have kl := killN_len (R := R) (l := l) (but := but) (k := k)
      have cl := cntN_le (R := R) (l := l) (but := but) (k := k)
      by_cases hlt : k < 8
      · have e0 : (k : Int) < 8 := by omega
        have e1 : w64 ((k : Int) + 1) = ((k + 1 : Nat) : Int) := by rw [w64_d (by omega) (by omega)]; omega
        have e2 : w64 ((cntN R l but k : Int) + 1) = ((cntN R l but k + 1 : Nat) : Int) := by rw [w64_d (by omega) (by omega)]; omega
        have p1 := s_tbhas_eq (h := k) (l := l) (tO (killN R l but k) (by omega))
        have p2 := s_tbclear_eq (h := k) (tO (killN R l but k) (by omega))
        rw [has_killN hlt hl] at p1
        rw [pO _ _ (by omega)] at p2
        have e3 : setT (killN R l but k) k z0 = (killN R l but k).set k z0 := by unfold setT; rw [if_pos (in8_k hlt)]; rfl
        rw [e3] at p2
        have kS : killN R l but (k + 1) = if killB R l but k = true then (killN R l but k).set k z0 else killN R l but k := rfl
        have cS : cntN R l but (k + 1) = if killB R l but k = true then cntN R l but k + 1 else cntN R l but k := rfl
        by_cases hb : (k : Int) = but
        · have hb' := eq_true hb
          have kB : killB R l but k = false := by simp [killB, hb]
          rw [kB, if_neg (by decide)] at kS cS
          (try simp (config := { maxSteps := 10000000 }) only [go_sem, seval, hb', e0, e1, p1]; repeat (simp (disch := omega) only [w64_d, ipos, ineg, dpos, dneg]; try simp (config := { maxSteps := 10000000 }) only [go_sem, seval, hb', e0, e1, p1]))
          refine ⟨k + 1, by omega, by omega, ?_⟩
          rw [kS, cS]
          exact Wk.wk (by simp [lo, lO]) (by simp [Am.get]) (by simp [AV.bel, Sc.bel, lid, lO]) (subH_refl _) (bO _)
        · cases hh : hasT R k l
          · have kB : killB R l but k = false := by simp [killB, hh]
            rw [kB, if_neg (by decide)] at kS cS
            rw [hh] at p1
            (try simp (config := { maxSteps := 10000000 }) only [go_sem, seval, hb, e0, e1, p1]; repeat (simp (disch := omega) only [w64_d, ipos, ineg, dpos, dneg]; try simp (config := { maxSteps := 10000000 }) only [go_sem, seval, hb, e0, e1, p1]))
            refine ⟨k + 1, by omega, by omega, ?_⟩
            rw [kS, cS]
            exact Wk.wk (by simp [lo, lO]) (by simp [Am.get]) (by simp [AV.bel, Sc.bel, lid, lO]) (subH_refl _) (bO _)
          · have kB : killB R l but k = true := by simp [killB, hh, hb]
            rw [kB, if_pos rfl] at kS cS
            rw [hh] at p1
            (try simp (config := { maxSteps := 10000000 }) only [go_sem, seval, hb, e0, e1, e2, p1, p2]; repeat (simp (disch := omega) only [w64_d, ipos, ineg, dpos, dneg]; try simp (config := { maxSteps := 10000000 }) only [go_sem, seval, hb, e0, e1, e2, p1, p2]))
            refine ⟨k + 1, by omega, by omega, ?_⟩
            rw [kS, cS]
            exact Wk.wk (by simp [lo, lO]) (by simp [Am.get]) (by simp [AV.bel, Sc.bel, lid, lO]) (subH_refl _) (bO _)
      · obtain rfl : k = 8 := by omega
        (try simp (config := { maxSteps := 10000000 }) only [go_sem, seval]; repeat (simp (disch := omega) only [w64_d, ipos, ineg, dpos, dneg]; try simp (config := { maxSteps := 10000000 }) only [go_sem, seval]))
        exact fin_fp rfl (subH_refl _) (bO _) (by rw [lO]; exact Nat.le_refl _)
  · simp at h
end
end Go.Proofs.YtflcjnekmjdckaaGreat
