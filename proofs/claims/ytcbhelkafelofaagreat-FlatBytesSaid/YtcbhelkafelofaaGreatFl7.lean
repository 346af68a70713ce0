/- Layer 32: bytes that are copied, laid, compared: contracts. -/
import Derived.Test.YtcbhelkafelofaaGreatFl6
namespace Go.Proofs.YtcbhelkafelofaaGreat
open Go.Am
set_option linter.unusedSimpArgs false
set_option linter.unusedVariables false
noncomputable section
set_option maxRecDepth 100000

theorem e8_drop (L : List Int) (k : Nat) : (L.flatMap e8F).drop k = (L.drop k).flatMap e8F := by have := fm_drop e8F_l L k; rwa [Nat.mul_one] at this
theorem e8_take (L : List Int) (k : Nat) : (L.flatMap e8F).take k = (L.take k).flatMap e8F := by
  induction L generalizing k with
  | nil => simp
  | cons x L ih => cases k with
    | zero => simp
    | succ k => simp [e8F, List.flatMap_cons] at ih ⊢; exact ih k
theorem e8_len (L : List Int) : (L.flatMap e8F).length = L.length := by rw [fm_len e8F_l, Nat.mul_one]
theorem e8_one (L : List Int) : (L.flatMap e8F).all Sc.one = true := by
  rw [List.all_flatMap]; exact List.all_eq_true.2 fun _ _ => rfl
/-- bytes that are laid into others -/
def layB (B : List Int) (k : Nat) (b : List Int) : List Int := B.take k ++ b ++ B.drop (k + b.length)
theorem layB_len {B b : List Int} {k : Nat} (h : k + b.length ≤ B.length) : (layB B k b).length = B.length := by
  unfold layB
  simp only [List.length_append, List.length_take, List.length_drop]
  omega
theorem layB_nil {B : List Int} {k : Nat} : layB B k [] = B := by unfold layB; simp
theorem wr_e8 (B b : List Int) (k : Nat) : wr (B.flatMap e8F) k (b.flatMap e8F) = (layB B k b).flatMap e8F := by
  rw [wr_un, e8_take, e8_len, e8_drop]
  unfold layB
  rw [List.flatMap_append, List.flatMap_append]
section
variable {H : AH}
/-- a world's bytes: of their own -/
def wdV (H : AH) (p : Nat) : Option (Nat × List Int) :=
  match hg H p with
  | .own (.i _ :: .i _ :: .i _ :: .i _ :: .sl id 0 v N :: _) =>
    match hg H id with
    | .vec 1 cs => (byF cs).bind fun B => if v = B.length ∧ N = B.length then some (id, B) else none
    | _ => none
  | _ => none
theorem wdV_inv {p id : Nat} {B : List Int} (h : wdV H p = some (id, B)) : (∃ a b c d r, hg H p = .own (.i a :: .i b :: .i c :: .i d :: .sl id 0 B.length B.length :: r)) ∧ hg H id = .vec 1 (B.flatMap e8F) := by
  unfold wdV at h
  split at h <;> try (simp at h; done)
  rename_i a b c d j v N r ho
  split at h <;> try (simp at h; done)
  rename_i cs hj
  rw [Option.bind_eq_some_iff] at h
  obtain ⟨B', h1, h2⟩ := h
  split at h2 <;> simp at h2
  rename_i hc
  obtain ⟨rfl, rfl⟩ := hc
  obtain ⟨rfl, rfl⟩ := h2
  exact ⟨⟨a, b, c, d, r, ho⟩, by rw [hj, byF_inv h1]⟩
theorem wdV_of {p id : Nat} {a b c d : Int} {B : List Int} {r : List Sc} (h1 : hg H p = .own (.i a :: .i b :: .i c :: .i d :: .sl id 0 B.length B.length :: r)) (h2 : hg H id = .vec 1 (B.flatMap e8F)) : wdV H p = some (id, B) := by
  unfold wdV
  simp [h1, h2, byF_of]
theorem cutF_vec {id : Nat} {B : List Int} (h : hg H id = .vec 1 (B.flatMap e8F)) : cutF H (.sl id 0 B.length B.length) = some B := by
  unfold cutF
  simp only [h, AObj.row, AObj.cells, e8_len]
  rw [if_pos (by simp), List.drop_zero, List.take_of_length_le (by rw [e8_len]; exact Nat.le_refl _), byF_of]
theorem wdV_R {p id : Nat} {B : List Int} (h : wdV H p = some (id, B)) : wdR H p = some (.sl id 0 B.length B.length, B) := by
  obtain ⟨⟨a, b, c, d, r, h1⟩, h2⟩ := wdV_inv h
  unfold wdR
  simp only [h1, cutF_vec h2, Option.map_some]
/-! ### copies -/
def s_fclone (args : List AV) (H : AH) : Option (AV × AH) :=
  match args with
  | [.c (.sl id o v n)] =>
    match cutF H (.sl id o v n) with
    | some B => if 0 < n ∧ n ≤ 262144 then some (.c (.sl H.length 0 n n), H ++ [.vec 1 (B.flatMap e8F)]) else none
    | none => none
  | _ => none
theorem s_fclone_eq {id o v n : Nat} {B : List Int} (h : cutF H (.sl id o v n) = some B) (h0 : 0 < n) (h1 : n ≤ 262144) : s_fclone [.c (.sl id o v n)] H = some (.c (.sl H.length 0 n n), H ++ [.vec 1 (B.flatMap e8F)]) := by
  simp only [s_fclone, h]; rw [if_pos ⟨h0, h1⟩]
theorem len_fclone (args : List AV) (H : AH) (v : AV) (H1 : AH) (h : s_fclone args H = some (v, H1)) : H.length ≤ H1.length := by
  unfold s_fclone at h
  repeat' split at h
  all_goals simp at h
  rw [← h.2]; simp
set_option maxRecDepth 100000 in
set_option maxHeartbeats 2000000 in
theorem ok_fclone : FpOk Tryz.prog 36 s_fclone := by
  refine fp_ok (s := s_fclone) (tab := []) hmix TabOk.nil Tryz.func36 rfl Tryz.results36 Tryz.ntmps36 (by kernel_rfl) (by kernel_rfl) len_fclone ?_
  intro args H v H1 h hargs hH
  unfold s_fclone at h
  split at h <;> try (simp at h; done)
  rename_i id o v n
  split at h <;> try (simp at h; done)
  rename_i B hcut
  split at h <;> try (simp at h; done)
  rename_i hn
  obtain ⟨n0, n1⟩ := hn
  simp only [Option.some.injEq, Prod.mk.injEq] at h
  obtain ⟨rfl, rfl⟩ := h
  refine ⟨by simp only [List.length_cons, List.length_nil]; decide, ?_⟩
  rcases cutF_inv hcut with ⟨c, _⟩ | ⟨i, o', e, g1, g2⟩
  · simp at c
  simp only [Sc.sl.injEq] at e
  obtain ⟨rfl, rfl, rfl, rfl⟩ := e
  have li : id < H.length := by simpa [AV.bel, Sc.bel] using hargs
  have gi : ∀ X, hg (H ++ X) id = hg H id := fun X => hg_lt' li
  have c5 : B.length ≤ 1099511627776 := by omega
  have c1 := e8_one B
  have lq := e8_len B
  have hz : ¬ B.length = 0 := by omega
  (try simp (config := { maxSteps := 10000000 }) only [go_sem, seval, c1, g1, c5, gi, g2, lq, hz]; repeat (simp (disch := omega) only [w64_d, ipos, ineg, dpos, dneg]; try simp (config := { maxSteps := 10000000 }) only [go_sem, seval, c1, g1, c5, gi, g2, lq, hz]))
  exact fin_sameF
def s_fbytes (args : List AV) (H : AH) : Option (AV × AH) :=
  match args with
  | [.c .nilp] => some (.c .nils, H)
  | [.c (.p p 0 0)] =>
    match wdV H p with
    | some (_, B) => if 0 < B.length ∧ B.length ≤ 262144 then some (.c (.sl H.length 0 B.length B.length), H ++ [.vec 1 (B.flatMap e8F)]) else none
    | none => none
  | _ => none
theorem s_fbytes_nil : s_fbytes [.c .nilp] H = some (.c .nils, H) := rfl
theorem s_fbytes_eq {p id : Nat} {B : List Int} (h : wdV H p = some (id, B)) (h0 : 0 < B.length) (h1 : B.length ≤ 262144) : s_fbytes [.c (.p p 0 0)] H = some (.c (.sl H.length 0 B.length B.length), H ++ [.vec 1 (B.flatMap e8F)]) := by
  simp only [s_fbytes, h]; rw [if_pos ⟨h0, h1⟩]
theorem len_fbytes (args : List AV) (H : AH) (v : AV) (H1 : AH) (h : s_fbytes args H = some (v, H1)) : H.length ≤ H1.length := by
  unfold s_fbytes at h
  repeat' split at h
  all_goals simp at h
  · rw [← h.2]; exact Nat.le_refl _
  · rw [← h.2]; simp
set_option maxRecDepth 100000 in
set_option maxHeartbeats 2000000 in
theorem ok_fbytes : FpOk Tryz.prog 10 s_fbytes := by
  refine fp_ok (s := s_fbytes) (tab := [(36, .fp s_fclone)]) hmix (TabOk.cons (e := .fp s_fclone) ok_fclone TabOk.nil) Tryz.func10 rfl Tryz.results10 Tryz.ntmps10 (by kernel_rfl) (by kernel_rfl) len_fbytes ?_
  intro args H v H1 h hargs hH
  unfold s_fbytes at h
  split at h
  · simp only [Option.some.injEq, Prod.mk.injEq] at h
    obtain ⟨rfl, rfl⟩ := h
    refine ⟨by simp only [List.length_cons, List.length_nil]; decide, ?_⟩
    (try simp (config := { maxSteps := 10000000 }) only [go_sem, seval]; repeat (simp (disch := omega) only [w64_d, ipos, ineg, dpos, dneg]; try simp (config := { maxSteps := 10000000 }) only [go_sem, seval]))
    exact fin_sameF
  · rename_i p
    split at h <;> try (simp at h; done)
    rename_i id B hw
    split at h <;> try (simp at h; done)
    rename_i hn
    simp only [Option.some.injEq, Prod.mk.injEq] at h
    obtain ⟨rfl, rfl⟩ := h
    refine ⟨by simp only [List.length_cons, List.length_nil]; decide, ?_⟩
    obtain ⟨⟨a, b, c, d, r, h1⟩, h2⟩ := wdV_inv hw
    have cl := s_fclone_eq (cutF_vec h2) hn.1 hn.2
    (try simp (config := { maxSteps := 10000000 }) only [go_sem, seval, h1, cl]; repeat (simp (disch := omega) only [w64_d, ipos, ineg, dpos, dneg]; try simp (config := { maxSteps := 10000000 }) only [go_sem, seval, h1, cl]))
    exact fin_sameF
  · simp at h
/-! ### the document's memory -/
def s_frnew (args : List AV) (H : AH) : Option (AV × AH) :=
  match args with
  | [.c (.i n)] => if 1 ≤ n ∧ n ≤ 4096 then some (.g [.sl (H.length + 1) 0 (64 * n.toNat) (64 * n.toNat)], H ++ [.own [.sl (H.length + 1) 0 (64 * n.toNat) (64 * n.toNat)], .vec 1 (List.replicate (64 * n.toNat) (.k .u8 0))]) else none
  | _ => none
theorem s_frnew_eq {n : Int} (h : 1 ≤ n ∧ n ≤ 4096) : s_frnew [.c (.i n)] H = some (.g [.sl (H.length + 1) 0 (64 * n.toNat) (64 * n.toNat)], H ++ [.own [.sl (H.length + 1) 0 (64 * n.toNat) (64 * n.toNat)], .vec 1 (List.replicate (64 * n.toNat) (.k .u8 0))]) := by simp only [s_frnew]; rw [if_pos h]
theorem len_frnew (args : List AV) (H : AH) (v : AV) (H1 : AH) (h : s_frnew args H = some (v, H1)) : H.length ≤ H1.length := by
  unfold s_frnew at h
  repeat' split at h
  all_goals simp at h
  rw [← h.2]
  simp
set_option maxRecDepth 100000 in
set_option maxHeartbeats 2000000 in
theorem ok_frnew : FpOk Tryz.prog 18 s_frnew := by
  refine fp_ok (s := s_frnew) (tab := []) hmix TabOk.nil Tryz.func18 rfl Tryz.results18 Tryz.ntmps18 (by kernel_rfl) (by kernel_rfl) len_frnew ?_
  intro args H v H1 h hargs hH
  unfold s_frnew at h
  split at h <;> try (simp at h; done)
  rename_i n
  split at h <;> try (simp at h; done)
  rename_i hn
  simp only [Option.some.injEq, Prod.mk.injEq] at h
  obtain ⟨rfl, rfl⟩ := h
  refine ⟨by simp only [List.length_cons, List.length_nil]; decide, ?_⟩
  obtain ⟨m, rfl⟩ := Int.eq_ofNat_of_zero_le (show 0 ≤ n by omega)
  have e1 : w64 (64 * (m : Int)) = ((64 * m : Nat) : Int) := by rw [w64_d (by omega) (by omega)]; omega
  have e2 : ((64 * m : Nat) : Int) ≤ 1048576 := by omega
  have e3 : (0 : Int) ≤ ((64 * m : Nat) : Int) := by omega
  have rep : (List.replicate (64 * m) [Sc.k .u8 0]).flatten = List.replicate (64 * m) (Sc.k .u8 0) := by
    generalize 64 * m = q
    induction q with
    | zero => rfl
    | succ q ih => rw [List.replicate_succ, List.flatten_cons, ih, List.replicate_succ]; rfl
  (try simp (config := { maxSteps := 10000000 }) only [go_sem, seval, e1, e2, e3, rep, Int.toNat_natCast]; repeat (simp (disch := omega) only [w64_d, ipos, ineg, dpos, dneg]; try simp (config := { maxSteps := 10000000 }) only [go_sem, seval, e1, e2, e3, rep, Int.toNat_natCast]))
  exact fin_sameF
end
end
end Go.Proofs.YtcbhelkafelofaaGreat
