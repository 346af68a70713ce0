/- Layer 32: the document's bytes, laid and compared: contracts. -/
import Derived.Test.YtcbhelkafelofaaGreatFl8
namespace Go.Proofs.YtcbhelkafelofaaGreat
open Go.Am
set_option linter.unusedSimpArgs false
set_option linter.unusedVariables false
noncomputable section
set_option maxRecDepth 100000

theorem layB_step {B c : List Int} {k : Nat} {q : Int} (hk : k + c.length < B.length) : layB (layB B k c) (k + c.length) [q] = layB B k (c ++ [q]) := by
  have l1 : (B.take k ++ c).length = k + c.length := by rw [List.length_append, List.length_take]; omega
  unfold layB
  rw [List.take_append_of_le_length (by omega), List.take_of_length_le (by omega), List.drop_append, List.drop_eq_nil_of_le (by rw [l1]; simp), l1, List.drop_drop]
  simp only [List.length_cons, List.length_nil, List.length_append, List.nil_append, List.append_assoc]
  congr 4
  omega
section
variable {H : AH}
def sidF : Sc → Option Nat
  | .sl i _ _ _ => some i
  | _ => none
def roV (H : AH) (id v N : Nat) : Option (List Int) :=
  match hg H id with
  | .vec 1 cs => (byF cs).bind fun B => if v = B.length ∧ N = B.length then some B else none
  | _ => none
theorem roV_inv {id v N : Nat} {B : List Int} (h : roV H id v N = some B) : hg H id = .vec 1 (B.flatMap e8F) ∧ v = B.length ∧ N = B.length := by
  unfold roV at h
  split at h <;> try (simp at h; done)
  rename_i cs hj
  rw [Option.bind_eq_some_iff] at h
  obtain ⟨B', h1, h2⟩ := h
  split at h2 <;> simp at h2
  rename_i hc
  subst h2
  exact ⟨by rw [hj, byF_inv h1], hc⟩
theorem roV_of {id : Nat} {B : List Int} (h2 : hg H id = .vec 1 (B.flatMap e8F)) : roV H id B.length B.length = some B := by
  unfold roV
  simp [h2, byF_of]
noncomputable def s_frfill (args : List AV) (H : AH) : Option (AV × AH) :=
  match args with
  | [.g [.sl id 0 v N], .c (.u a), .c y] =>
    match roV H id v N, cutF H y with
    | some B, some b =>
      if B.length ≤ 262144 ∧ b.length ≤ 262144 ∧ sidF y ≠ some id then
        if b = [] then some (.c (.b true), H ++ [.own [.sl id 0 v N]])
        else if hasF B.length a b.length = true then some (.c (.b true), H.set id (.vec 1 ((layB B (ofF a) b).flatMap e8F)) ++ [.own [.sl id 0 v N]])
        else some (.c (.b false), H ++ [.own [.sl id 0 v N]])
      else none
    | _, _ => none
  | _ => none
theorem s_frfill_eq {id : Nat} {a : BitVec 64} {y : Sc} {B b : List Int} (h : hg H id = .vec 1 (B.flatMap e8F)) (h2 : cutF H y = some b) (hB : B.length ≤ 262144) (hb : b.length ≤ 262144) (hy : sidF y ≠ some id) : s_frfill [.g [.sl id 0 B.length B.length], .c (.u a), .c y] H = if b = [] then some (.c (.b true), H ++ [.own [.sl id 0 B.length B.length]])
        else if hasF B.length a b.length = true then some (.c (.b true), H.set id (.vec 1 ((layB B (ofF a) b).flatMap e8F)) ++ [.own [.sl id 0 B.length B.length]])
        else some (.c (.b false), H ++ [.own [.sl id 0 B.length B.length]]) := by
  simp only [s_frfill, roV_of h, h2]; rw [if_pos ⟨hB, hb, hy⟩]
theorem len_frfill (args : List AV) (H : AH) (v : AV) (H1 : AH) (h : s_frfill args H = some (v, H1)) : H.length ≤ H1.length := by
  unfold s_frfill at h
  repeat' split at h
  all_goals simp at h
  all_goals rw [← h.2]
  all_goals simp
theorem wkFe {n : Nat} {fr fr' : Fr} {H K : AH} (h : H = K) (hf : ∀ p ∈ fr', Am.get fr p.1 = p.2) : Wk n fr H (fr', K) := by subst h; exact wkF hf
theorem setF_self {id : Nat} {o : AObj} (h : hg H id = o) (hl : id < H.length) : H.set id o = H := by
  apply List.ext_getElem?
  intro i
  rw [List.getElem?_set]
  split
  · rename_i e
    subst e
    rw [← h]
    unfold hg
    rw [List.getD_eq_getElem?_getD, List.getElem?_eq_getElem hl]; rfl
  · rfl
set_option maxRecDepth 100000 in
set_option maxHeartbeats 2000000 in
theorem ok_frfill : FpOk Tryz.prog 19 s_frfill := by
  refine fp_ok (s := s_frfill) (tab := [(47, .fq s_frhas)]) hmix (TabOk.cons (e := .fq s_frhas) ok_frhas TabOk.nil) Tryz.func19 rfl Tryz.results19 Tryz.ntmps19 (by kernel_rfl) (by kernel_rfl) len_frfill ?_
  intro args H v H1 h hargs hH
  unfold s_frfill at h
  split at h <;> try (simp at h; done)
  rename_i id v N a y
  split at h <;> try (simp at h; done)
  rename_i B b hv hy
  split at h <;> try (simp at h; done)
  rename_i hn
  obtain ⟨n1, n2, n3⟩ := hn
  refine ⟨by simp only [List.length_cons, List.length_nil]; decide, ?_⟩
  obtain ⟨h2, rfl, rfl⟩ := roV_inv hv
  have yl := cutF_len hy
  have ys := cutF_isS hy
  simp only [List.all_cons, AV.bel, Bool.and_eq_true] at hargs
  have lid : id < H.length := by simpa [Sc.bel] using hargs.1
  have by' := hargs.2.2.1
  split at h
  · rename_i hb
    subst hb
    simp only [Option.some.injEq, Prod.mk.injEq] at h
    obtain ⟨rfl, rfl⟩ := h
    simp only [List.length_nil] at yl
    (try simp (config := { maxSteps := 10000000 }) only [go_sem, seval, yl, ys, as_len_y]; repeat (simp (disch := omega) only [w64_d, ipos, ineg, dpos, dneg]; try simp (config := { maxSteps := 10000000 }) only [go_sem, seval, yl, ys, as_len_y]))
    exact fin_sameF
  rename_i hb
  have bl : 0 < b.length := List.length_pos_iff.2 hb
  have bz : ¬ ((b.length : Int) = 0) := by omega
  have h2X : ∀ X, hg (H ++ X) id = .vec 1 (B.flatMap e8F) := fun X => by rw [hg_lt' lid, h2]
  have sp := fun X => s_frhas_eq (cutF_vec (h2X X)) n1 (show ((b.length : Nat) : Int) ≤ 9223372036854775807 by omega) (a := a)
  split at h
  · rename_i hh
    simp only [Option.some.injEq, Prod.mk.injEq] at h
    obtain ⟨rfl, rfl⟩ := h
    simp only [hh] at sp
    rw [hasF_iff] at hh
    have h3 := baseF (a := a) (by omega)
    have e3 : (a - 2147483648#64).toInt = (ofF a : Int) := by rw [BitVec.toInt_eq_toNat_cond, h3, if_pos (by omega)]
    rcases cutF_inv hy with ⟨rfl, rfl⟩ | ⟨j, o, rfl, g1, g2⟩
    · simp at hb
    have lj : j < H.length := by simpa [Sc.bel] using by'
    have ne : j ≠ id := fun c => n3 (by rw [c]; rfl)
    (try simp (config := { maxSteps := 10000000 }) only [go_sem, seval, yl, ys, as_len_y, bz, sp]; repeat (simp (disch := omega) only [w64_d, ipos, ineg, dpos, dneg]; try simp (config := { maxSteps := 10000000 }) only [go_sem, seval, yl, ys, as_len_y, bz, sp]))
    refine arun_for b.length (fun i => ([(1, .c (.u a)), (2, .c (.sl j o (hg H j).row b.length)), (3, .c (.p H.length 0 0)), (7, .c (.i i))], H.set id (.vec 1 ((layB B (ofF a) (b.take i)).flatMap e8F)) ++ [.own [.sl id 0 B.length B.length]])) ?_ fun i hi => ?_
    · refine wkFe ?_ (by simp [Am.get])
      rw [List.take_zero, layB_nil, setF_self h2 lid]
    · by_cases hlt : i < b.length
      rotate_left
      · obtain rfl : i = b.length := by omega
        have iI : ¬ ((b.length : Int) < b.length) := by omega
        rw [List.take_length]
        (try simp (config := { maxSteps := 10000000 }) only [go_sem, seval, yl, ys, as_len_y, iI]; repeat (simp (disch := omega) only [w64_d, ipos, ineg, dpos, dneg]; try simp (config := { maxSteps := 10000000 }) only [go_sem, seval, yl, ys, as_len_y, iI]))
        exact fin_sameF
      have iI : (i : Int) < b.length := by omega
      have i0 : (0 : Int) ≤ (i : Int) := by omega
      have F1 : w64 ((i : Int) + 1) = ((i + 1 : Nat) : Int) := by rw [w64_d (by omega) (by omega)]; omega
      have F2 : w64 ((ofF a : Int) + (i : Int)) = ((ofF a + i : Nat) : Int) := by rw [w64_d (by omega) (by omega)]; omega
      have k1 : (0 : Int) ≤ ((ofF a + i : Nat) : Int) := by omega
      have k2 : ((ofF a + i : Nat) : Int) < (B.length : Int) := by omega
      obtain ⟨q, hq⟩ : ∃ q, b[i]? = some q := ⟨_, List.getElem?_eq_getElem hlt⟩
      obtain ⟨C, hC⟩ : ∃ C, C = layB B (ofF a) (b.take i) := ⟨_, rfl⟩
      have tl : (b.take i).length = i := by rw [List.length_take]; omega
      have lC : C.length = B.length := by rw [hC]; exact layB_len (by omega)
      have tk : b.take (i + 1) = b.take i ++ [q] := by
        rw [List.take_succ_eq_append_getElem hlt]
        rw [List.getElem?_eq_getElem hlt, Option.some.injEq] at hq
        rw [hq]
      have st := layB_step (B := B) (c := b.take i) (k := ofF a) (q := q) (by omega)
      rw [tl, ← tk, ← hC] at st
      have w1 := wr_e8 C [q] (ofF a + i)
      rw [st] at w1
      have w2 := w1
      rw [wr_un] at w2
      have w1' : wr (C.flatMap e8F) (ofF a + i) [.k .u8 q] = (layB B (ofF a) (b.take (i + 1))).flatMap e8F := w1
      have w2' : List.take (ofF a + i) (C.flatMap e8F) ++ Sc.k .u8 q :: List.drop (ofF a + i + 1) (C.flatMap e8F) = (layB B (ofF a) (b.take (i + 1))).flatMap e8F := by
        rw [← w2]
        simp only [List.flatMap_cons, List.flatMap_nil, e8F, List.append_nil, List.length_cons, List.length_nil, List.append_assoc, List.cons_append, List.nil_append]
      have lC2 : ofF a + i + 1 ≤ (C.flatMap e8F).length := by rw [e8_len, lC]; omega
      have b1 : (o + i + 1 ≤ (hg H j).cells.length) = True := eq_true (by omega)
      have b2 : (hg H j).cells.getD (o + i) .any = .k .u8 q := by
        have := congrArg (fun l => l.getD i .any) g2
        simp only [List.getD_eq_getElem?_getD, List.getElem?_take, List.getElem?_drop] at this ⊢
        rw [if_pos (by omega)] at this
        rw [this]
        have g := fm1 (f := e8F) (g := Sc.k .u8) (fun _ => rfl) hq
        simpa [List.getD_eq_getElem?_getD] using g
      have gJ : ∀ (O : AObj) (X : AH), hg (H.set id O ++ X) j = hg H j := fun O X => by rw [hg_lt' (by simpa using lj), hg_set_ne' (fun c => ne c.symm)]
      have gI : ∀ (O : AObj) (X : AH), hg (H.set id O ++ X) id = O := fun O X => by rw [hg_lt' (by simpa using lid), hg_set_same lid]
      have gS : ∀ (O Q : AObj) (X : AH), (H.set id O ++ X).set id Q = H.set id Q ++ X := fun O Q X => by rw [List.set_append_left _ _ (by simpa using lid), List.set_set]
      have gP : ∀ (O : AObj) (X : AH), hg (H.set id O ++ X) H.length = hg X 0 := fun O X => by
        have := hg_len (H := H.set id O) (X := X)
        rwa [List.length_set] at this
      have rC : (C.flatMap e8F).length = B.length := by rw [e8_len, lC]
      rw [← hC]
      (try simp (config := { maxSteps := 10000000 }) only [go_sem, seval, yl, ys, as_len_y, iI, i0, F1, F2, e3, k1, k2, b1, b2, lC2, w1', w2', gJ, gI, gS, gP, rC, Int.toNat_natCast]; repeat (simp (disch := omega) only [w64_d, ipos, ineg, dpos, dneg]; try simp (config := { maxSteps := 10000000 }) only [go_sem, seval, yl, ys, as_len_y, iI, i0, F1, F2, e3, k1, k2, b1, b2, lC2, w1', w2', gJ, gI, gS, gP, rC, Int.toNat_natCast]))
      exact ⟨⟨fun c => absurd c.1 (fun e => ne e.symm), fun c => absurd c.1 (by omega)⟩, i + 1, by omega, by omega, wkF (by simp [Am.get])⟩
  · rename_i hh
    simp only [Option.some.injEq, Prod.mk.injEq] at h
    obtain ⟨rfl, rfl⟩ := h
    simp only [show hasF B.length a b.length = false by simpa using hh] at sp
    (try simp (config := { maxSteps := 10000000 }) only [go_sem, seval, yl, ys, as_len_y, bz, sp]; repeat (simp (disch := omega) only [w64_d, ipos, ineg, dpos, dneg]; try simp (config := { maxSteps := 10000000 }) only [go_sem, seval, yl, ys, as_len_y, bz, sp]))
    exact fin_sameF
/-! ### the same bytes -/
def s_fbeq (args : List AV) (H : AH) : Option AV :=
  match args with
  | [.c (.sl i o v n), .c (.sl j p w m)] =>
    match cutF H (.sl i o v n), cutF H (.sl j p w m) with
    | some L, some M => if L = M ∧ L.length ≤ 262144 then some (.c (.b true)) else none
    | _, _ => none
  | _ => none
theorem s_fbeq_eq {i o v n j p w m : Nat} {L : List Int} (h1 : cutF H (.sl i o v n) = some L) (h2 : cutF H (.sl j p w m) = some L) (h3 : L.length ≤ 262144) : s_fbeq [.c (.sl i o v n), .c (.sl j p w m)] H = some (.c (.b true)) := by
  simp only [s_fbeq, h1, h2]; rw [if_pos ⟨trivial, h3⟩]
theorem cut_cell {id off v n : Nat} {L : List Int} (h : cutF H (.sl id off v n) = some L) : v = (hg H id).row ∧ n = L.length ∧ off + n ≤ (hg H id).cells.length ∧ ∀ k q, L[k]? = some q → (hg H id).cells.getD (off + k) .any = .k .u8 q ∧ off + k + 1 ≤ (hg H id).cells.length := by
  rcases cutF_inv h with ⟨c, _⟩ | ⟨i, o, e, g1, g2⟩
  · simp at c
  · simp only [Sc.sl.injEq] at e
    obtain ⟨rfl, rfl, rfl, rfl⟩ := e
    refine ⟨rfl, rfl, g1, fun k q hq => ?_⟩
    have kl : k < L.length := by
      rcases Nat.lt_or_ge k L.length with c | c
      · exact c
      · rw [List.getElem?_eq_none c] at hq; simp at hq
    have := congrArg (fun l => l.getD k .any) g2
    simp only [List.getD_eq_getElem?_getD, List.getElem?_take, List.getElem?_drop] at this ⊢
    rw [if_pos kl] at this
    refine ⟨?_, by omega⟩
    rw [this]
    have g := fm1 (f := e8F) (g := Sc.k .u8) (fun _ => rfl) hq
    simpa [List.getD_eq_getElem?_getD] using g
set_option maxRecDepth 100000 in
set_option maxHeartbeats 2000000 in
theorem ok_fbeq : FpOk Tryz.prog 21 (fun args H => (s_fbeq args H).map fun v => (v, H)) := by
  refine fq_ok (s := s_fbeq) (tab := []) hmix TabOk.nil Tryz.func21 rfl Tryz.results21 Tryz.ntmps21 (by kernel_rfl) (by kernel_rfl) ?_
  intro args H v h hargs hH
  unfold s_fbeq at h
  split at h <;> try (simp at h; done)
  rename_i i o v n j p w m
  split at h <;> try (simp at h; done)
  rename_i L M h1 h2
  split at h <;> try (simp at h; done)
  rename_i hc
  obtain ⟨rfl, hl⟩ := hc
  simp only [Option.some.injEq] at h
  subst h
  refine ⟨by simp only [List.length_cons, List.length_nil]; decide, rfl, ?_⟩
  obtain ⟨rfl, rfl, x1, x2⟩ := cut_cell h1
  obtain ⟨rfl, rfl, y1, y2⟩ := cut_cell h2
  (try simp (config := { maxSteps := 10000000 }) only [go_sem, seval]; repeat (simp (disch := omega) only [w64_d, ipos, ineg, dpos, dneg]; try simp (config := { maxSteps := 10000000 }) only [go_sem, seval]))
  rw [arun_loop]
  refine ⟨{k : Nat // k ≤ L.length}, fun k => ([(0, .c (.sl i o (hg H i).row L.length)), (1, .c (.sl j p (hg H j).row L.length)), (5, .c (.i k.1))], H), fun k => L.length - k.1, ⟨0, by omega⟩, wkF (by simp [Am.get]), ?_⟩
  rintro ⟨k, hk⟩
  by_cases hlt : k < L.length
  · have e1 : w64 ((k : Int) + 1) = ((k + 1 : Nat) : Int) := by rw [w64_d (by omega) (by omega)]; omega
    obtain ⟨q, hq⟩ : ∃ q, L[k]? = some q := ⟨_, List.getElem?_eq_getElem hlt⟩
    obtain ⟨a1, a2⟩ := x2 k q hq
    obtain ⟨b1, b2⟩ := y2 k q hq
    have k0 : (0 : Int) ≤ (k : Int) := by omega
    have kI : (k : Int) < (L.length : Int) := by omega
    (try simp (config := { maxSteps := 10000000 }) only [go_sem, seval, e1, a1, a2, b1, b2, k0, kI, Int.toNat_natCast]; repeat (simp (disch := omega) only [w64_d, ipos, ineg, dpos, dneg]; try simp (config := { maxSteps := 10000000 }) only [go_sem, seval, e1, a1, a2, b1, b2, k0, kI, Int.toNat_natCast]))
    exact ⟨⟨k + 1, by omega⟩, by simp only; omega, wkF (by simp [Am.get])⟩
  · obtain rfl : k = L.length := by omega
    have kI : ¬ ((L.length : Int) < L.length) := by omega
    (try simp (config := { maxSteps := 10000000 }) only [go_sem, seval, kI]; repeat (simp (disch := omega) only [w64_d, ipos, ineg, dpos, dneg]; try simp (config := { maxSteps := 10000000 }) only [go_sem, seval, kI]))
    exact subH_refl _
end
end
end Go.Proofs.YtcbhelkafelofaaGreat
