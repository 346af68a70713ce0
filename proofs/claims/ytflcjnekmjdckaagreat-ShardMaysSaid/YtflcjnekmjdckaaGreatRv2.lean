/- Layer 13: a table that is changed: contracts. -/
import Derived.Test.YtflcjnekmjdckaaGreatRv1
namespace Go.Proofs.YtflcjnekmjdckaaGreat
open Go.Am
set_option linter.unusedSimpArgs false
set_option linter.unusedVariables false
noncomputable section

theorem setP_bel {H : AH} {x : Sc} {R : List Sl} (hH : belH H = true) : belH (setP H x R) = true := by
  unfold setP; split
  · exact bel_set' hH (tabC_bel _ _)
  · exact hH
theorem wr_tab {R : List Sl} {k : Nat} {y : Sl} (h : k < R.length) : wr (tabC R) (k * 2) [.b y.is, .u y.ln] = tabC (R.set k y) := wr_fm slC_l h
def s_vset (args : List AV) (H : AH) : Option (AV × AH) :=
  match args with
  | [.c x, .c (.i h), .c (.u l)] =>
    match tabP H x with
    | some (some R) => some (.c (.b (in8 h)), setP H x (setT R h ⟨true, l⟩))
    | some none => some (.c (.b false), H)
    | none => none
  | _ => none
theorem s_vset_eq {H : AH} {x : Sc} {h : Int} {l : BitVec 64} {R : List Sl} (hR : tabP H x = some (some R)) : s_vset [.c x, .c (.i h), .c (.u l)] H = some (.c (.b (in8 h)), setP H x (setT R h ⟨true, l⟩)) := by simp only [s_vset, hR]
theorem s_vset_nil {H : AH} {h : Int} {l : BitVec 64} : s_vset [.c .nilp, .c (.i h), .c (.u l)] H = some (.c (.b false), H) := rfl
theorem len_vset (args : List AV) (H : AH) (v : AV) (H1 : AH) (h : s_vset args H = some (v, H1)) : H.length ≤ H1.length := by
  unfold s_vset at h
  repeat' split at h
  all_goals simp at h
  · rw [← h.2, setP_len]; exact Nat.le_refl _
  · rw [← h.2]; exact Nat.le_refl _
set_option maxRecDepth 100000 in
set_option maxHeartbeats 2000000 in
theorem ok_vset : FpOk Tryz.prog 26 s_vset := by
  refine fp_ok (s := s_vset) (tab := [(55, .pu s_vin)]) hmix (TabOk.cons (e := .pu s_vin) ok_vin TabOk.nil) Tryz.func26 rfl Tryz.results26 Tryz.ntmps26 (by kernel_rfl) (by kernel_rfl) len_vset ?_
  intro args H v H1 h hargs hH
  unfold s_vset at h
  split at h
  · rename_i x h0 l
    split at h
    · rename_i R hR
      simp only [Option.some.injEq, Prod.mk.injEq] at h
      obtain ⟨rfl, rfl⟩ := h
      refine ⟨by simp only [List.length_cons, List.length_nil]; decide, ?_⟩
      rcases tabP_inv hR with ⟨rfl, hq⟩ | ⟨id, R', rfl, hq, hl, ho⟩
      · simp at hq
      · simp only [Option.some.injEq] at hq; subst hq
        have lid : id < H.length := hg_lt (by rw [ho]; rfl)
        have hb := setP_bel (x := .p id 0 0) (R := setT R h0 ⟨true, l⟩) hH
        simp only [setP] at hb ⊢
        cases hi : in8 h0
        · have e : setT R h0 ⟨true, l⟩ = R := by unfold setT; rw [if_neg (by rw [hi]; decide)]
          rw [e, set_self ho lid]
          (try simp (config := { maxSteps := 10000000 }) only [go_sem, seval, s_vin_eq, hi]; repeat (simp (disch := omega) only [w64_d, ipos, ineg, dpos, dneg]; try simp (config := { maxSteps := 10000000 }) only [go_sem, seval, s_vin_eq, hi]))
          exact fin_fp rfl (subH_refl _) hH (Nat.le_refl _)
        · obtain ⟨k, rfl, hk⟩ := in8_nat hi
          have e : setT R k ⟨true, l⟩ = R.set k ⟨true, l⟩ := by unfold setT; rw [if_pos hi]; rfl
          have lt := tabC_l hl
          have w1 := wr_tab (R := R) (k := k) (y := ⟨true, l⟩) (by omega)
          rw [e] at hb ⊢
          (try simp (config := { maxSteps := 10000000 }) only [go_sem, seval, s_vin_eq, hi, ho, lt, w1, Int.toNat_natCast]; repeat (simp (disch := omega) only [w64_d, ipos, ineg, dpos, dneg]; try simp (config := { maxSteps := 10000000 }) only [go_sem, seval, s_vin_eq, hi, ho, lt, w1, Int.toNat_natCast]))
          exact fin_fp rfl (subH_refl _) hb (by simp)
    · simp only [Option.some.injEq, Prod.mk.injEq] at h
      obtain ⟨rfl, rfl⟩ := h
      rename_i hR
      refine ⟨by simp only [List.length_cons, List.length_nil]; decide, ?_⟩
      rcases tabP_inv hR with ⟨rfl, hq⟩ | ⟨id, R', rfl, hq, hl, ho⟩
      · (try simp (config := { maxSteps := 10000000 }) only [go_sem, seval]; repeat (simp (disch := omega) only [w64_d, ipos, ineg, dpos, dneg]; try simp (config := { maxSteps := 10000000 }) only [go_sem, seval]))
        exact fin_fp rfl (subH_refl _) hH (Nat.le_refl _)
      · simp at hq
    · simp at h
  · simp at h
def s_vclear (args : List AV) (H : AH) : Option (AV × AH) :=
  match args with
  | [.c x, .c (.i h)] =>
    match tabP H x with
    | some (some R) => some (.c (.b (at8 R h).is), setP H x (setT R h z0))
    | some none => some (.c (.b false), H)
    | none => none
  | _ => none
theorem s_vclear_eq {H : AH} {x : Sc} {h : Int} {R : List Sl} (hR : tabP H x = some (some R)) : s_vclear [.c x, .c (.i h)] H = some (.c (.b (at8 R h).is), setP H x (setT R h z0)) := by simp only [s_vclear, hR]
theorem s_vclear_nil {H : AH} {h : Int} : s_vclear [.c .nilp, .c (.i h)] H = some (.c (.b false), H) := rfl
theorem len_vclear (args : List AV) (H : AH) (v : AV) (H1 : AH) (h : s_vclear args H = some (v, H1)) : H.length ≤ H1.length := by
  unfold s_vclear at h
  repeat' split at h
  all_goals simp at h
  · rw [← h.2, setP_len]; exact Nat.le_refl _
  · rw [← h.2]; exact Nat.le_refl _
set_option maxRecDepth 100000 in
set_option maxHeartbeats 2000000 in
theorem ok_vclear : FpOk Tryz.prog 29 s_vclear := by
  refine fp_ok (s := s_vclear) (tab := [(55, .pu s_vin)]) hmix (TabOk.cons (e := .pu s_vin) ok_vin TabOk.nil) Tryz.func29 rfl Tryz.results29 Tryz.ntmps29 (by kernel_rfl) (by kernel_rfl) len_vclear ?_
  intro args H v H1 h hargs hH
  unfold s_vclear at h
  split at h
  · rename_i x h0
    split at h
    · rename_i R hR
      simp only [Option.some.injEq, Prod.mk.injEq] at h
      obtain ⟨rfl, rfl⟩ := h
      refine ⟨by simp only [List.length_cons, List.length_nil]; decide, ?_⟩
      rcases tabP_inv hR with ⟨rfl, hq⟩ | ⟨id, R', rfl, hq, hl, ho⟩
      · simp at hq
      · simp only [Option.some.injEq] at hq; subst hq
        have lid : id < H.length := hg_lt (by rw [ho]; rfl)
        have hb := setP_bel (x := .p id 0 0) (R := setT R h0 z0) hH
        simp only [setP] at hb ⊢
        cases hi : in8 h0
        · have e : setT R h0 z0 = R := by unfold setT; rw [if_neg (by rw [hi]; decide)]
          have e2 : at8 R h0 = z0 := by unfold at8; rw [if_neg (by rw [hi]; decide)]
          rw [e, set_self ho lid, e2]
          (try simp (config := { maxSteps := 10000000 }) only [go_sem, seval, s_vin_eq, hi, z0]; repeat (simp (disch := omega) only [w64_d, ipos, ineg, dpos, dneg]; try simp (config := { maxSteps := 10000000 }) only [go_sem, seval, s_vin_eq, hi, z0]))
          exact fin_fp rfl (subH_refl _) hH (Nat.le_refl _)
        · obtain ⟨k, rfl, hk⟩ := in8_nat hi
          obtain ⟨y, hy⟩ := sl_some hl hk
          obtain ⟨c0, c1, c2⟩ := sl_cell hy
          have e0 := at8_k hk hy
          have e : setT R k z0 = R.set k z0 := by unfold setT; rw [if_pos hi]; rfl
          have lt := tabC_l hl
          have w1 : wr (tabC R) (k * 2) [.b false, .u 0#64] = tabC (R.set k z0) := wr_tab (R := R) (k := k) (y := z0) (by omega)
          rw [e] at hb ⊢
          rw [e0]
          (try simp (config := { maxSteps := 10000000 }) only [go_sem, seval, s_vin_eq, hi, ho, lt, c0, w1, Int.toNat_natCast]; repeat (simp (disch := omega) only [w64_d, ipos, ineg, dpos, dneg]; try simp (config := { maxSteps := 10000000 }) only [go_sem, seval, s_vin_eq, hi, ho, lt, c0, w1, Int.toNat_natCast]))
          exact fin_fp rfl (subH_refl _) hb (by simp)
    · simp only [Option.some.injEq, Prod.mk.injEq] at h
      obtain ⟨rfl, rfl⟩ := h
      rename_i hR
      refine ⟨by simp only [List.length_cons, List.length_nil]; decide, ?_⟩
      rcases tabP_inv hR with ⟨rfl, hq⟩ | ⟨id, R', rfl, hq, hl, ho⟩
      · (try simp (config := { maxSteps := 10000000 }) only [go_sem, seval]; repeat (simp (disch := omega) only [w64_d, ipos, ineg, dpos, dneg]; try simp (config := { maxSteps := 10000000 }) only [go_sem, seval]))
        exact fin_fp rfl (subH_refl _) hH (Nat.le_refl _)
      · simp at hq
    · simp at h
  · simp at h
/-! ### reservations that are killed -/
def killB (R : List Sl) (l : BitVec 64) (but : Int) (k : Nat) : Bool := !decide ((k : Int) = but) && hasT R k l
def killN (R : List Sl) (l : BitVec 64) (but : Int) : Nat → List Sl
  | 0 => R
  | k + 1 => if killB R l but k = true then (killN R l but k).set k z0 else killN R l but k
def cntN (R : List Sl) (l : BitVec 64) (but : Int) : Nat → Nat
  | 0 => 0
  | k + 1 => if killB R l but k = true then cntN R l but k + 1 else cntN R l but k
theorem killN_len {R : List Sl} {l : BitVec 64} {but : Int} : ∀ {k : Nat}, (killN R l but k).length = R.length
  | 0 => rfl
  | k + 1 => by
    have ih := killN_len (R := R) (l := l) (but := but) (k := k)
    simp only [killN]; split
    · simp [ih]
    · exact ih
theorem cntN_le {R : List Sl} {l : BitVec 64} {but : Int} : ∀ {k : Nat}, cntN R l but k ≤ k
  | 0 => Nat.le_refl _
  | k + 1 => by
    have ih := cntN_le (R := R) (l := l) (but := but) (k := k)
    simp only [cntN]; split <;> omega
theorem killN_get {R : List Sl} {l : BitVec 64} {but : Int} {j : Nat} : ∀ {k : Nat}, (killN R l but k)[j]? = if j < k ∧ killB R l but j = true ∧ j < R.length then some z0 else R[j]?
  | 0 => by simp [killN]
  | k + 1 => by
    have ih := killN_get (R := R) (l := l) (but := but) (k := k) (j := j)
    have hl := killN_len (R := R) (l := l) (but := but) (k := k)
    simp only [killN]
    split
    · rename_i hb
      rw [List.getElem?_set]
      by_cases e : k = j
      · subst e
        rw [if_pos rfl, hl]
        by_cases h2 : k < R.length
        · rw [if_pos h2, if_pos ⟨by omega, hb, h2⟩]
        · rw [if_neg h2, if_neg (fun h => h2 h.2.2), List.getElem?_eq_none (by omega)]
      · rw [if_neg e, ih]
        by_cases h2 : j < k ∧ killB R l but j = true ∧ j < R.length
        · rw [if_pos h2, if_pos ⟨by omega, h2.2⟩]
        · rw [if_neg h2, if_neg (fun h => h2 ⟨by omega, h.2⟩)]
    · rename_i hb
      rw [ih]
      by_cases h2 : j < k ∧ killB R l but j = true ∧ j < R.length
      · rw [if_pos h2, if_pos ⟨by omega, h2.2⟩]
      · rw [if_neg h2, if_neg (fun h => h2 ⟨?_, h.2⟩)]
        rcases Nat.lt_or_eq_of_le (Nat.lt_succ_iff.1 h.1) with h3 | h3
        · exact h3
        · subst h3; exact (hb h.2.1).elim
theorem has_killN {R : List Sl} {l : BitVec 64} {but : Int} {k : Nat} (hk : k < 8) (hl : R.length = 8) : hasT (killN R l but k) k l = hasT R k l := by
  obtain ⟨y, hy⟩ := sl_some hl hk
  have e : (killN R l but k)[k]? = some y := by rw [killN_get, if_neg (by omega)]; exact hy
  unfold hasT; rw [at8_k hk e, at8_k hk hy]
def s_vkill (args : List AV) (H : AH) : Option (AV × AH) :=
  match args with
  | [.c x, .c (.u l), .c (.i but)] =>
    match tabP H x with
    | some (some R) => some (.c (.i (cntN R l but 8)), setP H x (killN R l but 8))
    | some none => some (.c (.i 0), H)
    | none => none
  | _ => none
theorem s_vkill_eq {H : AH} {x : Sc} {but : Int} {l : BitVec 64} {R : List Sl} (hR : tabP H x = some (some R)) : s_vkill [.c x, .c (.u l), .c (.i but)] H = some (.c (.i (cntN R l but 8)), setP H x (killN R l but 8)) := by simp only [s_vkill, hR]
theorem s_vkill_nil {H : AH} {l : BitVec 64} {but : Int} : s_vkill [.c .nilp, .c (.u l), .c (.i but)] H = some (.c (.i 0), H) := rfl
theorem len_vkill (args : List AV) (H : AH) (v : AV) (H1 : AH) (h : s_vkill args H = some (v, H1)) : H.length ≤ H1.length := by
  unfold s_vkill at h
  repeat' split at h
  all_goals simp at h
  · rw [← h.2, setP_len]; exact Nat.le_refl _
  · rw [← h.2]; exact Nat.le_refl _
set_option maxRecDepth 100000 in
set_option maxHeartbeats 2000000 in
theorem ok_vkill : FpOk Tryz.prog 48 s_vkill := by
  refine fp_ok (s := s_vkill) (tab := [(28, .fq s_vhas), (29, .fp s_vclear)]) hmix (TabOk.cons (e := .fq s_vhas) ok_vhas (TabOk.cons (e := .fp s_vclear) ok_vclear TabOk.nil)) Tryz.func48 rfl Tryz.results48 Tryz.ntmps48 (by kernel_rfl) (by kernel_rfl) len_vkill ?_
  intro args H v H1 h hargs hH
  unfold s_vkill at h
  split at h
  · rename_i x l but
    split at h
    · rename_i R hR
      simp only [Option.some.injEq, Prod.mk.injEq] at h
      obtain ⟨rfl, rfl⟩ := h
      refine ⟨by simp only [List.length_cons, List.length_nil]; decide, ?_⟩
      rcases tabP_inv hR with ⟨rfl, hq⟩ | ⟨id, R', rfl, hq, hl, ho⟩
      · simp at hq
      · simp only [Option.some.injEq] at hq; subst hq
        have lid : id < H.length := hg_lt (by rw [ho]; rfl)
        let O : List Sl → AH := fun L => H.set id (.own (tabC L))
        have gO : ∀ L, hg (O L) id = .own (tabC L) := fun L => hg_set_same lid
        have tO : ∀ L, L.length = 8 → tabP (O L) (.p id 0 0) = some (some L) := fun L h => tabP_of (gO L) h
        have pO : ∀ L M, setP (O L) (.p id 0 0) M = O M := fun L M => List.set_set ..
        have lO : ∀ L, (O L).length = H.length := fun L => List.length_set
        have bO : ∀ L, belH (O L) = true := fun L => bel_set' hH (tabC_bel _ _)
        have h1 : O R = H := set_self ho lid
        have fin : setP H (.p id 0 0) (killN R l but 8) = O (killN R l but 8) := rfl
        rw [fin]
        clear_value O
        (try simp (config := { maxSteps := 10000000 }) only [go_sem, seval]; repeat (simp (disch := omega) only [w64_d, ipos, ineg, dpos, dneg]; try simp (config := { maxSteps := 10000000 }) only [go_sem, seval]))
        refine arun_for 8 (fun k => ([(0, .c (.p id 0 0)), (1, .c (.u l)), (2, .c (.i but)), (7, .c (.i (cntN R l but k))), (9, .c (.i k))], O (killN R l but k))) ?_ fun k hk => ?_
        · rw [show killN R l but 0 = R from rfl, h1]
          exact Wk.wk (Nat.le_refl _) (by simp [Am.get, cntN]) (by simp [AV.bel, Sc.bel, lid]) (subH_refl _) hH
        · have kl := killN_len (R := R) (l := l) (but := but) (k := k)
          have cl := cntN_le (R := R) (l := l) (but := but) (k := k)
          by_cases hlt : k < 8
          · have e0 : (k : Int) < 8 := by omega
            have e1 : w64 ((k : Int) + 1) = ((k + 1 : Nat) : Int) := by rw [w64_d (by omega) (by omega)]; omega
            have e2 : w64 ((cntN R l but k : Int) + 1) = ((cntN R l but k + 1 : Nat) : Int) := by rw [w64_d (by omega) (by omega)]; omega
            have p1 := s_vhas_eq (h := k) (l := l) (tO (killN R l but k) (by omega))
            have p2 := s_vclear_eq (h := k) (tO (killN R l but k) (by omega))
            rw [has_killN hlt hl] at p1
            rw [pO] at p2
            have e3 : setT (killN R l but k) k z0 = (killN R l but k).set k z0 := by unfold setT; rw [if_pos (in8_k hlt)]; rfl
            rw [e3] at p2
            have kS : killN R l but (k + 1) = if killB R l but k = true then (killN R l but k).set k z0 else killN R l but k := rfl
            have cS : cntN R l but (k + 1) = if killB R l but k = true then cntN R l but k + 1 else cntN R l but k := rfl
            by_cases hb : (k : Int) = but
            · have hb' := eq_true hb
              have kB : killB R l but k = false := by simp [killB, hb]
              rw [kB, if_neg (by decide)] at kS cS
              (try simp (config := { maxSteps := 10000000 }) only [go_sem, seval, hb', e0, e1, p1]; repeat (simp (disch := omega) only [w64_d, ipos, ineg, dpos, dneg]; try simp (config := { maxSteps := 10000000 }) only [go_sem, seval, hb', e0, e1, p1]))
              refine ⟨k + 1, by omega, by omega, ?_⟩
              rw [kS, cS]
              exact Wk.wk (by simp [lo, lO]) (by simp [Am.get]) (by simp [AV.bel, Sc.bel, lid, lO]) (subH_refl _) (bO _)
            · cases hh : hasT R k l
              · have kB : killB R l but k = false := by simp [killB, hh]
                rw [kB, if_neg (by decide)] at kS cS
                rw [hh] at p1
                (try simp (config := { maxSteps := 10000000 }) only [go_sem, seval, hb, e0, e1, p1]; repeat (simp (disch := omega) only [w64_d, ipos, ineg, dpos, dneg]; try simp (config := { maxSteps := 10000000 }) only [go_sem, seval, hb, e0, e1, p1]))
                refine ⟨k + 1, by omega, by omega, ?_⟩
                rw [kS, cS]
                exact Wk.wk (by simp [lo, lO]) (by simp [Am.get]) (by simp [AV.bel, Sc.bel, lid, lO]) (subH_refl _) (bO _)
              · have kB : killB R l but k = true := by simp [killB, hh, hb]
                rw [kB, if_pos rfl] at kS cS
                rw [hh] at p1
                (try simp (config := { maxSteps := 10000000 }) only [go_sem, seval, hb, e0, e1, e2, p1, p2]; repeat (simp (disch := omega) only [w64_d, ipos, ineg, dpos, dneg]; try simp (config := { maxSteps := 10000000 }) only [go_sem, seval, hb, e0, e1, e2, p1, p2]))
                refine ⟨k + 1, by omega, by omega, ?_⟩
                rw [kS, cS]
                exact Wk.wk (by simp [lo, lO]) (by simp [Am.get]) (by simp [AV.bel, Sc.bel, lid, lO]) (subH_refl _) (bO _)
          · obtain rfl : k = 8 := by omega
            (try simp (config := { maxSteps := 10000000 }) only [go_sem, seval]; repeat (simp (disch := omega) only [w64_d, ipos, ineg, dpos, dneg]; try simp (config := { maxSteps := 10000000 }) only [go_sem, seval]))
            exact fin_fp rfl (subH_refl _) (bO _) (by rw [lO]; exact Nat.le_refl _)
    · simp only [Option.some.injEq, Prod.mk.injEq] at h
      obtain ⟨rfl, rfl⟩ := h
      rename_i hR
      refine ⟨by simp only [List.length_cons, List.length_nil]; decide, ?_⟩
      rcases tabP_inv hR with ⟨rfl, hq⟩ | ⟨id, R', rfl, hq, hl, ho⟩
      · (try simp (config := { maxSteps := 10000000 }) only [go_sem, seval]; repeat (simp (disch := omega) only [w64_d, ipos, ineg, dpos, dneg]; try simp (config := { maxSteps := 10000000 }) only [go_sem, seval]))
        refine arun_for 8 (fun k => ([(0, .c .nilp), (1, .c (.u l)), (2, .c (.i but)), (7, .c (.i 0)), (9, .c (.i k))], H)) ?_ fun k hk => ?_
        · exact Wk.wk (Nat.le_refl _) (by simp [Am.get]) (by rfl) (subH_refl _) hH
        · by_cases hlt : k < 8
          · have e0 : (k : Int) < 8 := by omega
            have e1 : w64 ((k : Int) + 1) = ((k + 1 : Nat) : Int) := by rw [w64_d (by omega) (by omega)]; omega
            by_cases hb : (k : Int) = but
            · have hb' := eq_true hb
              (try simp (config := { maxSteps := 10000000 }) only [go_sem, seval, hb', e0, e1, s_vhas_nil]; repeat (simp (disch := omega) only [w64_d, ipos, ineg, dpos, dneg]; try simp (config := { maxSteps := 10000000 }) only [go_sem, seval, hb', e0, e1, s_vhas_nil]))
              exact ⟨k + 1, by omega, by omega, Wk.wk (by simp [lo]) (by simp [Am.get]) (by rfl) (subH_refl _) hH⟩
            · (try simp (config := { maxSteps := 10000000 }) only [go_sem, seval, hb, e0, e1, s_vhas_nil]; repeat (simp (disch := omega) only [w64_d, ipos, ineg, dpos, dneg]; try simp (config := { maxSteps := 10000000 }) only [go_sem, seval, hb, e0, e1, s_vhas_nil]))
              exact ⟨k + 1, by omega, by omega, Wk.wk (by simp [lo]) (by simp [Am.get]) (by rfl) (subH_refl _) hH⟩
          · obtain rfl : k = 8 := by omega
            (try simp (config := { maxSteps := 10000000 }) only [go_sem, seval]; repeat (simp (disch := omega) only [w64_d, ipos, ineg, dpos, dneg]; try simp (config := { maxSteps := 10000000 }) only [go_sem, seval]))
            exact fin_fp rfl (subH_refl _) hH (Nat.le_refl _)
      · simp at hq
    · simp at h
  · simp at h
end
end Go.Proofs.YtflcjnekmjdckaaGreat
