/- Layer 17: what a deed does to both: plain laws. -/
import Derived.Test.YtfddaaplnnlfoaaU20
namespace Go.Proofs.Ytfddaaplnnlfoaa
open Go.Am
set_option linter.unusedSimpArgs false
set_option linter.unusedVariables false
noncomputable section

/-! ### no object is told anew that is read alone -/
theorem nvw_refl (H : AH) : nvw H H := fun _ _ _ => rfl
theorem nvw_trans {A B C : AH} (h : nvw A B) (h' : nvw B C) : nvw A C := fun i h1 h2 => by
  have e := h' i h1 h2
  rw [← e] at h1 h2
  exact (h i h1 h2).trans e
theorem nvw_1 {H : AH} {o : AObj} (h : o.live = true → o.owned = true) : nvw H (H ++ [o]) := fun i h1 h2 => by
  rw [hg_append] at h1 h2 ⊢
  split at h1
  · rename_i e
    rw [if_pos e] at h2
    rw [h h1] at h2; simp at h2
  · rename_i e
    rw [if_neg e]
theorem nvw_app {H : AH} : ∀ {X : AH}, (∀ o ∈ X, o.live = true → o.owned = true) → nvw H (H ++ X) := by
  intro X
  induction X generalizing H with
  | nil => intro _; rw [List.append_nil]; exact nvw_refl H
  | cons o X ih =>
    intro h
    rw [show H ++ o :: X = (H ++ [o]) ++ X by simp]
    exact nvw_trans (nvw_1 (h o (by simp))) (ih fun o' ho => h o' (by simp [ho]))
theorem nvw_set {H : AH} {n : Nat} {o : AObj} (h : o.live = true → o.owned = true) : nvw H (H.set n o) := fun i h1 h2 => by
  by_cases e : i = n
  · subst e
    rcases Nat.lt_or_ge i H.length with hl | hl
    · rw [hg_set_same hl] at h1 h2
      rw [h h1] at h2; simp at h2
    · rw [List.set_eq_of_length_le hl]
  · rw [hg_set_ne' (Ne.symm e)]
theorem nvw_h {H X : AH} (h : (X.all fun o => o.live = false || o.owned) = true) : nvw H (H ++ X) := nvw_app fun o ho hl => by
  have := List.all_eq_true.1 h o ho
  simp [hl] at this; exact this
theorem nvc {p : Prop} {full : Array Oper} {i j : Nat} {A B : AH} (h : nvw A B) (hl : loose full i j = true) : ¬ (loose full i j = true ∧ nvw A B) → p := fun k => absurd ⟨hl, h⟩ k
theorem nvw_push {H K : AH} {x b x' : Sc} (h : pushS H x b = some (x', K)) : nvw H K := by
  unfold pushS at h
  repeat' split at h
  all_goals simp at h
  all_goals rw [← h.2]
  · exact nvw_h rfl
  · exact nvw_set (fun _ => rfl)
theorem nvw_clone {H K : AH} {x x' : Sc} (h : cloneS H x = some (x', K)) : nvw H K := by
  unfold cloneS at h
  repeat' split at h
  all_goals simp at h
  all_goals rw [← h.2]
  all_goals exact nvw_h rfl
theorem okB_nv {f : List AV → AH → Option (AV × AH)} (hf : ∀ a H v H1, f a H = some (v, H1) → nvw H H1) {a : List AV} {H H1 : AH} {v : AV} (h : okB (f a H) = some (v, H1)) : nvw H H1 := by
  obtain ⟨s, h1, _⟩ := okB_inv h
  exact hf _ _ _ _ h1
theorem okN_nv {f : List AV → AH → Option (AV × AH)} (hf : ∀ a H v H1, f a H = some (v, H1) → nvw H H1) {a : List AV} {H H1 : AH} {v : AV} (h : okN (f a H) = some (v, H1)) : nvw H H1 := by
  obtain ⟨s, h1, _⟩ := okN_inv h
  exact hf _ _ _ _ h1
theorem nv_ucome {args : List AV} {H K : AH} {v : AV} (h : s_ucome args H = some (v, K)) : nvw H K := by
  unfold s_ucome at h
  repeat' split at h
  all_goals simp at h
  · rw [← h.2]; exact nvw_set fun _ => rfl
  · rename_i hp; rw [← h.2]; exact nvw_trans (nvw_push hp) (nvw_set fun _ => rfl)
theorem nv_utake {args : List AV} {H K : AH} {v : AV} (h : s_utake args H = some (v, K)) : nvw H K := by
  unfold s_utake at h
  repeat' split at h
  all_goals simp at h
  · rw [← h.2]; exact nvw_refl _
  · rw [← h.2]; exact nvw_refl _
  · rename_i hp; rw [← h.2]; exact nvw_trans (nvw_clone hp) (nvw_set fun _ => rfl)
theorem nv_utold {args : List AV} {H K : AH} {v : AV} (h : s_utold args H = some (v, K)) : nvw H K := by
  unfold s_utold at h
  repeat' split at h
  all_goals simp at h
  all_goals rw [← h.2]; first | (split <;> first | exact nvw_refl _ | exact nvw_set fun _ => rfl) | exact nvw_refl _ | exact nvw_set fun _ => rfl
theorem nv_ustate {args : List AV} {H K : AH} {v : AV} (h : s_ustate args H = some (v, K)) : nvw H K := by
  unfold s_ustate at h
  repeat' split at h
  all_goals simp at h
  all_goals rw [← h.2]; first | (split <;> first | exact nvw_refl _ | exact nvw_set fun _ => rfl) | exact nvw_refl _ | exact nvw_set fun _ => rfl
theorem nv_uread {args : List AV} {H K : AH} {v : AV} (h : s_uread args H = some (v, K)) : nvw H K := by
  unfold s_uread at h
  repeat' split at h
  all_goals first
    | exact okB_nv (f := s_utake) (fun _ _ _ _ => nv_utake) h
    | exact okB_nv (f := s_utold) (fun _ _ _ _ => nv_utold) h
    | exact okB_nv (f := s_ustate) (fun _ _ _ _ => nv_ustate) h
    | (simp at h; done)
    | (simp at h; rw [← h.2]; exact nvw_refl _)
theorem nv_usend {args : List AV} {H K : AH} {v : AV} (h : s_usend args H = some (v, K)) : nvw H K := by
  unfold s_usend at h
  repeat' split at h
  all_goals simp at h
  · rename_i hp; rw [← h.2]; exact nvw_trans (nvw_push hp) (nvw_set fun _ => rfl)
  · rename_i hp _ _ _; rw [← h.2]; exact nvw_trans (nv_ucome hp) (nvw_set fun _ => rfl)
theorem nv_uqueue {args : List AV} {H K : AH} {v : AV} (h : s_uqueue args H = some (v, K)) : nvw H K := by
  unfold s_uqueue at h
  repeat' split at h
  all_goals simp at h
  all_goals rw [← h.2]; exact nvw_set fun _ => rfl
theorem nv_uwrite {args : List AV} {H K : AH} {v : AV} (h : s_uwrite args H = some (v, K)) : nvw H K := by
  unfold s_uwrite at h
  repeat' split at h
  all_goals first
    | exact okN_nv (f := s_usend) (fun _ _ _ _ => nv_usend) h
    | exact okN_nv (f := s_uqueue) (fun _ _ _ _ => nv_uqueue) h
    | (simp at h; done)
    | (simp at h; rw [← h.2]; exact nvw_refl _)
    | (simp at h; rw [← h.2]; exact nvw_set fun _ => rfl)
theorem nv_uinput {args : List AV} {H K : AH} {v : AV} (h : s_uinput args H = some (v, K)) : nvw H K := by
  unfold s_uinput at h
  repeat' split at h
  all_goals first
    | exact nv_ucome h
    | (simp at h; done)
    | (simp at h; rw [← h.2]; exact nvw_refl _)
theorem nv_rcome {args : List AV} {H K : AH} {v : AV} (h : s_rcome args H = some (v, K)) : nvw H K := by
  unfold s_rcome at h
  repeat' split at h
  all_goals simp at h
  all_goals rw [← h.2]; exact nvw_h rfl
theorem nv_rread {args : List AV} {H K : AH} {v : AV} (h : s_rread args H = some (v, K)) : nvw H K := by
  unfold s_rread at h
  repeat' split at h
  all_goals simp at h
  all_goals rw [← h.2]; exact nvw_h rfl
theorem nv_rinput {args : List AV} {H K : AH} {v : AV} (h : s_rinput args H = some (v, K)) : nvw H K := by
  unfold s_rinput at h
  repeat' split at h
  all_goals simp at h
  · rename_i hc
    rw [← h.2]; exact nvw_trans (nvw_h rfl) (nvw_trans (nv_rcome hc) (nvw_set fun _ => rfl))
  · rw [← h.2]; exact nvw_h rfl
theorem nv_rwrite {args : List AV} {H K : AH} {v : AV} (h : s_rwrite args H = some (v, K)) : nvw H K := by
  unfold s_rwrite at h
  repeat' split at h
  all_goals simp at h
  all_goals rw [← h.2]
  all_goals first
    | exact nvw_h rfl
    | (rename_i hc
       exact nvw_trans (nvw_h rfl) (nvw_trans (nv_rcome hc) (nvw_trans (nvw_h (X := [_]) rfl) (nvw_trans (nvw_set fun _ => rfl) (nvw_set fun _ => rfl)))))
    | (rename_i hc
       refine nvw_trans (nvw_h (X := [_, _]) rfl) (nvw_trans (nv_rcome hc) ?_)
       rw [← List.append_assoc]
       exact nvw_trans (nvw_h (X := [_]) rfl) (nvw_trans (nvw_set fun _ => rfl) (nvw_set fun _ => rfl)))
theorem nv_do {args : List AV} {H K : AH} {v : AV} (h : s_do args H = some (v, K)) : nvw H K := by
  unfold s_do at h
  split at h
  · split at h
    · unfold doF at h
      repeat' split at h
      all_goals simp only [Option.some.injEq, Prod.mk.injEq, reduceCtorEq] at h
      all_goals rw [← h.2]
      · have a := nv_uread ‹s_uread _ _ = some (_, _)›
        have b := nv_rread ‹s_rread _ _ = some (_, _)›
        exact nvw_trans (nvw_h rfl) (nvw_trans a (nvw_trans b (nvw_trans (nvw_h (X := [_]) rfl) (nvw_set fun _ => rfl))))
      · have a := nv_rwrite ‹s_rwrite _ _ = some (_, _)›
        have b := nv_uwrite ‹s_uwrite _ _ = some (_, _)›
        exact nvw_trans (nvw_h rfl) (nvw_trans a (nvw_trans (nvw_h (X := [_]) rfl) (nvw_trans b (nvw_set fun _ => rfl))))
      · have a := nv_rinput ‹s_rinput _ _ = some (_, _)›
        have b := nv_uinput ‹s_uinput _ _ = some (_, _)›
        exact nvw_trans (nvw_h rfl) (nvw_trans a (nvw_trans (nvw_h (X := [_]) rfl) (nvw_trans b (nvw_set fun _ => rfl))))
    · simp at h
  · simp at h
def deedP (t : Pt) (kd : Int) (off : BitVec 64) (b : Int) : Pt :=
  if kd = 0 then (readP t off).1 else if kd = 1 then (writeP t off b).1 else (inputP t b).1
theorem pi_keepU {K K' : AH} {h : Nat} {t : Pt} {x y : Sc} (hP : PI K h t x y) (hk : ∀ i, i = h ∨ sid x = some i ∨ sid y = some i → hg K' i = hg K i) : PI K' h t x y :=
  ⟨by rw [hk h (.inl rfl)]; exact hP.hp, bsx_keep hP.hx fun i hi => hk i (.inr (.inl hi)), bsx_keep hP.hy fun i hi => hk i (.inr (.inr hi)), hP.ne⟩
def dlt (t t' : Pt) : Prop := t'.A.length ≤ t.A.length + 1 ∧ t'.B.length ≤ t.B.length + 1 ∧ (all8 t.A = true → all8 t.B = true → all8 t'.A = true ∧ all8 t'.B = true)
theorem dlt_refl (t : Pt) : dlt t t := ⟨by omega, by omega, fun a b => ⟨a, b⟩⟩
theorem dlt_same {t t' : Pt} (hA : t'.A = t.A) (hB : t'.B = t.B) : dlt t t' := ⟨by rw [hA]; omega, by rw [hB]; omega, fun a b => ⟨by rw [hA]; exact a, by rw [hB]; exact b⟩⟩
theorem all8_app {A : List Int} {b : Int} (h : all8 A = true) (hb : by8 b) : all8 (A ++ [b]) = true := by
  unfold all8 at *; simp [h, hb, List.all_append]
theorem dlt_come {t : Pt} {b : Int} (hb : by8 b) : dlt t (comeP t b).1 := by
  unfold comeP; split
  · exact dlt_same rfl rfl
  · exact ⟨by simp, by simp, fun a c => ⟨all8_app a hb, c⟩⟩
theorem dlt_take (t : Pt) : dlt t (takeP t).1 := by
  unfold takeP
  cases h : t.A with
  | nil => exact dlt_refl t
  | cons a A =>
    refine ⟨?_, ?_, fun e f => ⟨?_, f⟩⟩
    · rw [h]; simp <;> omega
    · simp
    · rw [h] at e; unfold all8 at *; simp only [List.all_cons, Bool.and_eq_true] at e; exact e.2
theorem dlt_deed {t : Pt} {kd : Int} {off : BitVec 64} {b : Int} (hb : by8 b) : dlt t (deedP t kd off b) := by
  unfold deedP
  split
  · unfold readP toldP stateP
    repeat' split
    all_goals first | exact dlt_take t | exact dlt_same rfl rfl
  split
  · unfold writeP sendP queueP
    repeat' split
    all_goals first
      | exact dlt_same rfl rfl
      | exact ⟨by simp, by simp, fun a c => ⟨a, all8_app c hb⟩⟩
      | exact dlt_come hb
      | exact ⟨by simp, by simp, fun a c => ⟨rfl, c⟩⟩
      | exact dlt_same (wr_of t .nils .nils off b).2.1 (wr_of t .nils .nils off b).2.2
  · unfold inputP; split
    · exact dlt_come hb
    · exact dlt_refl t
theorem nb_deed {t : Pt} {kd : Int} {off : BitVec 64} {b : Int} (h : nb t) (hb : by8 b) : nb (deedP t kd off b) := by
  unfold deedP; split
  · exact nb_read h
  split
  · exact nb_write h hb
  · exact nb_input h
theorem rp_mk {K : AH} {t : Pt} {x y : Sc} (n : nb t) (hx : slD 1 dc8 K x = some t.A) (hy : slD 1 dc8 K y = some t.B) (la : t.A.length ≤ 1000000) (lb : t.B.length ≤ 1000000) : RpOk K t x y :=
  ⟨hx, hy, n.e, n.l, n.m, n.s, n.dl, n.dm, la, lb⟩
/-- rows of a value that came, or were made -/
def newS (H : AH) (u u' : Sc) : Prop := ∀ i, sid u' = some i → sid u = some i ∨ H.length ≤ i
theorem newS_of {H K : AH} {u u' : Sc} (h : newR K u u') (hl : H.length ≤ K.length) : newS H u u' := by
  rintro i hi
  rcases h with rfl | rfl | ⟨j, v, n, rfl, hj⟩
  · exact .inl hi
  · simp [sid] at hi
  · simp only [sid, Option.some.injEq] at hi; right; omega
theorem sid_lt {u : Sc} {H : AH} {A : List Int} (h : slD 1 dc8 H u = some A) (hb : u.bel H.length = true) {i : Nat} (hi : sid u = some i) : i < H.length := by
  rcases sl_shape h with rfl | ⟨j, v, n, rfl⟩
  · simp [sid] at hi
  · simp only [sid, Option.some.injEq] at hi; subst hi; simpa [Sc.bel] using hb
theorem do_ok {H : AH} {id : Nat} {t : Pt} {x y u v : Sc} (ok : DoOk H id t x y u v) (la : t.A.length < 1000000) (lb : t.B.length < 1000000) (kd : Int) (off : BitVec 64) {b : Int} (hb : by8 b) :
    ∃ K x' y' u' v', s_do [.c (.p id 0 0), .g (rpC t u v), .g [.i kd, .u off, .k .u8 b]] H = some (.t [.g (rpC (deedP t kd off b) u' v'), .c (.b true)], K) ∧
      DoOk K id (deedP t kd off b) x' y' u' v' ∧ Kp H K id x y x' y' ∧ newS H u u' ∧ newS H v v' := by
  have e0 : s_do [.c (.p id 0 0), .g (rpC t u v), .g [.i kd, .u off, .k .u8 b]] H = doF id (rpC t u v) kd off b H := by
    simp only [s_do]; rw [if_pos ⟨t, x, y, u, v, rfl, ok, by omega, by omega, hb⟩]
  rw [e0]
  have lid := ok.pi.lt
  have lx : ∀ i, sid x = some i → i < H.length := fun i hi => (bsx_lt ok.pi.hx hi).1
  have ly : ∀ i, sid y = some i → i < H.length := fun i hi => (bsx_lt ok.pi.hy hi).1
  have lu : ∀ i, sid u = some i → i < H.length := fun i hi => sid_lt ok.rp.hx ok.bu hi
  have lv : ∀ i, sid v = some i → i < H.length := fun i hi => sid_lt ok.rp.hy ok.bv hi
  have nd : nb (deedP t kd off b) := nb_deed ok.rp.nb hb
  obtain ⟨dA, dB, _⟩ := dlt_deed (t := t) (kd := kd) (off := off) hb
  -- the end: a place is set
  have fin : ∀ (P : AH) (x' y' u' v' : Sc) (o : AObj), PI P id (deedP t kd off b) x' y' → slD 1 dc8 P u' = some (deedP t kd off b).A → slD 1 dc8 P v' = some (deedP t kd off b).B → u'.bel P.length = true → v'.bel P.length = true →
      H.length + 3 ≤ P.length → (∀ k, k < H.length → k ≠ id → sid x ≠ some k → sid y ≠ some k → hg P k = hg H k) →
      (∀ i, sid x' = some i → sid x = some i ∨ H.length + 3 ≤ i) → (∀ i, sid y' = some i → sid y = some i ∨ H.length + 3 ≤ i) →
      (∀ i, sid u' = some i → sid u = some i ∨ (H.length + 3 ≤ i ∧ sid x' ≠ some i ∧ sid y' ≠ some i)) → (∀ i, sid v' = some i → sid v = some i ∨ (H.length + 3 ≤ i ∧ sid x' ≠ some i ∧ sid y' ≠ some i)) →
      DoOk (P.set (H.length + 2) o) id (deedP t kd off b) x' y' u' v' ∧ Kp H (P.set (H.length + 2) o) id x y x' y' ∧ newS H u u' ∧ newS H v v' := by
    intro P x' y' u' v' o hP hu hv bu bv hl hk fx fy fu fv
    have keep : ∀ i, i ≠ H.length + 2 → hg (P.set (H.length + 2) o) i = hg P i := fun i hi => hg_set_ne' (Ne.symm hi)
    have ux : ∀ (w w' : Sc), (∀ i, sid w' = some i → sid w = some i ∨ (H.length + 3 ≤ i ∧ sid x' ≠ some i ∧ sid y' ≠ some i)) → (∀ i, sid w = some i → i < H.length) → (∀ i, sid w = some i → i ≠ id ∧ sid x ≠ some i ∧ sid y ≠ some i) →
        (∀ i, sid w' = some i → i ≠ H.length + 2) ∧ (∀ i, sid w' = some i → i ≠ id ∧ sid x' ≠ some i ∧ sid y' ≠ some i) ∧ newS H w w' := by
      intro w w' fw lw sw
      refine ⟨fun i hi => ?_, fun i hi => ?_, fun i hi => ?_⟩
      · rcases fw i hi with e | e
        · have := lw i e; omega
        · omega
      · rcases fw i hi with e | e
        · obtain ⟨s1, s2, s3⟩ := sw i e
          have := lw i e
          refine ⟨s1, fun e2 => ?_, fun e2 => ?_⟩
          · rcases fx i e2 with e3 | e3
            · exact s2 e3
            · omega
          · rcases fy i e2 with e3 | e3
            · exact s3 e3
            · omega
        · exact ⟨by omega, e.2.1, e.2.2⟩
      · rcases fw i hi with e | e
        · exact .inl e
        · right; omega
    obtain ⟨u1, u2, u3⟩ := ux u u' fu lu ok.su
    obtain ⟨v1, v2, v3⟩ := ux v v' fv lv ok.sv
    refine ⟨⟨pi_keepU hP fun i hi => keep i ?_, rp_mk nd ?_ ?_ (by omega) (by omega), by rw [List.length_set]; exact bu, by rw [List.length_set]; exact bv, u2, v2⟩, ⟨by rw [List.length_set]; omega, fun k h1 h2 h3 h4 => ?_, fun i hi => ?_, fun i hi => ?_⟩, u3, v3⟩
    · rcases hi with rfl | hi | hi
      · omega
      · rcases fx i hi with e | e
        · have := lx i e; omega
        · omega
      · rcases fy i hi with e | e
        · have := ly i e; omega
        · omega
    · exact slD_kp hu fun i hi => keep i (u1 i hi)
    · exact slD_kp hv fun i hi => keep i (v1 i hi)
    · rw [keep k (by omega)]; exact hk k h1 h2 h3 h4
    · rcases fx i hi with e | e
      · exact .inl e
      · right; omega
    · rcases fy i hi with e | e
      · exact .inl e
      · right; omega
  have P0 := fun X => pi_app (X := X) ok.pi
  have ok0 := fun X => rp_app (X := X) ok.rp ok.bu ok.bv
  unfold doF
  by_cases k0 : kd = 0
  · subst k0
    rw [if_pos rfl]
    have dp : deedP t 0 off b = (readP t off).1 := rfl
    simp only [dp] at fin nd dA dB ⊢
    obtain ⟨K, x1, e1, P1, kp⟩ := read_ok (P0 [AObj.own (rpC t u v), .own [.i 0, .u off, .k .u8 b], .own zr]) off (by omega)
    have ll : H.length + 3 ≤ K.length := by have := kp.len; simp at this; exact this
    have kk : ∀ i, i < H.length → i ≠ id → sid x ≠ some i → sid y ≠ some i → hg K i = hg H i := fun i h1 h2 h3 h4 => by
      rw [kp.keep i (by simp; omega) h2 h3 h4, hg_app h1]
    have uu : ∀ s, (∀ i, sid s = some i → i < H.length) → (∀ i, sid s = some i → i ≠ id ∧ sid x ≠ some i ∧ sid y ≠ some i) → ∀ A, slD 1 dc8 H s = some A → slD 1 dc8 K s = some A := fun s hs hd A hA => slD_kp hA fun i hi => by
      obtain ⟨d1, d2, d3⟩ := hd i hi
      exact kk i (hs i hi) d1 d2 d3
    have hv := uu v lv ok.sv _ ok.rp.hy
    have okK : RpOk K t u v := rp_mk ok.rp.nb (uu u lu ok.su _ ok.rp.hx) hv (by omega) (by omega)
    obtain ⟨u', X, e2, nu, hu', hB', bu'⟩ := rread_ok okK (Sc.bel_mono ok.bu (by omega)) off
    rw [e1]; simp only [e2, decide_true, beq_self_eq_true, Bool.and_self]
    refine ⟨_, x1, y, u', v, rfl, ?_⟩
    have bv' : v.bel K.length = true := Sc.bel_mono ok.bv (by omega)
    refine fin (K ++ X ++ [AObj.own (rpC (readP t off).1 u' v)]) x1 y u' v _ (pi_app (pi_app P1)) (slD_app hu' bu') ?_ (Sc.bel_mono bu' (by simp)) (Sc.bel_mono bv' (by simp <;> omega)) (by simp; omega) ?_ ?_ (fun i hi => .inl hi) ?_ (fun i hi => .inl hi)
    · rw [hB', List.append_assoc]; exact slD_app hv bv'
    · intro k h1 h2 h3 h4
      rw [List.append_assoc, hg_app (by omega)]; exact kk k h1 h2 h3 h4
    · intro i hi
      rcases kp.fx i hi with e | e
      · exact .inl e
      · right; simpa using e
    · intro i hi
      rcases newS_of nu (Nat.le_refl _) i hi with e | e
      · exact .inl e
      · refine .inr ⟨by omega, fun e2 => ?_, fun e2 => ?_⟩
        · have := (bsx_lt P1.hx e2).1; omega
        · have := ly i e2; omega
  rw [if_neg k0]
  by_cases k1 : kd = 1
  · subst k1
    rw [if_pos rfl]
    have dp : deedP t 1 off b = (writeP t off b).1 := rfl
    simp only [dp] at fin nd dA dB ⊢
    obtain ⟨u', v', X, e1, nu, nv, hu', hv', bu', bv'⟩ := rwrite_ok (ok0 [AObj.own (rpC t u v), .own [.i 1, .u off, .k .u8 b], .own zr]) (Sc.bel_mono ok.bu (by simp)) (Sc.bel_mono ok.bv (by simp)) off hb
    rw [e1]
    obtain ⟨K, x1, y1, e2, P1, kp⟩ := write_ok (pi_app (X := [AObj.own (rpC (writeP t off b).1 u' v')]) (pi_app (X := X) (P0 [AObj.own (rpC t u v), .own [.i 1, .u off, .k .u8 b], .own zr]))) off b (by omega) (by omega)
    simp only [e2, beq_self_eq_true]
    refine ⟨_, x1, y1, u', v', rfl, ?_⟩
    have lA : (H ++ [AObj.own (rpC t u v), .own [.i 1, .u off, .k .u8 b], .own zr] ++ X ++ [AObj.own (rpC (writeP t off b).1 u' v')]).length = H.length + 3 + X.length + 1 := by simp; omega
    have ll := kp.len
    rw [lA] at ll
    have kl : ∀ (w w' : Sc), newR (H ++ [AObj.own (rpC t u v), .own [.i 1, .u off, .k .u8 b], .own zr]) w w' → w'.bel (H ++ [AObj.own (rpC t u v), .own [.i 1, .u off, .k .u8 b], .own zr] ++ X).length = true → (∀ i, sid w = some i → i < H.length) → (∀ i, sid w = some i → i ≠ id ∧ sid x ≠ some i ∧ sid y ≠ some i) →
        (∀ A, slD 1 dc8 (H ++ [AObj.own (rpC t u v), .own [.i 1, .u off, .k .u8 b], .own zr] ++ X) w' = some A → slD 1 dc8 K w' = some A) ∧ (∀ A, slD 1 dc8 (H ++ [AObj.own (rpC t u v), .own [.i 1, .u off, .k .u8 b], .own zr] ++ X) w' = some A → ∀ i, sid w' = some i → sid w = some i ∨ (H.length + 3 ≤ i ∧ sid x1 ≠ some i ∧ sid y1 ≠ some i)) := by
      intro w w' nw bw lw sw
      have nw' := newS_of nw (Nat.le_refl _)
      simp only [newS, List.length_append, List.length_cons, List.length_nil] at nw'
      have q : ∀ i, sid w' = some i → i ≠ id ∧ sid x ≠ some i ∧ sid y ≠ some i := fun i hi => by
        rcases nw' i hi with e | e
        · exact sw i e
        · exact ⟨by omega, fun e2 => by have := lx i e2; omega, fun e2 => by have := ly i e2; omega⟩
      have lt : ∀ A, slD 1 dc8 (H ++ [AObj.own (rpC t u v), .own [.i 1, .u off, .k .u8 b], .own zr] ++ X) w' = some A → ∀ i, sid w' = some i → i < H.length + 3 + X.length := fun A hA i hi => by
        have := sid_lt hA bw hi; simp at this; omega
      refine ⟨fun A hA => slD_kp hA fun i hi => ?_, fun A hA i hi => ?_⟩
      · obtain ⟨d1, d2, d3⟩ := q i hi
        have l1 := lt A hA i hi
        rw [kp.keep i (by rw [lA]; omega) d1 d2 d3, hg_app (by simp; omega)]
      · rcases nw' i hi with e | e
        · exact .inl e
        · have l1 := lt A hA i hi
          refine .inr ⟨e, fun e2 => ?_, fun e2 => ?_⟩
          · rcases kp.fx i e2 with e3 | e3
            · exact (q i hi).2.1 e3
            · rw [lA] at e3; omega
          · rcases kp.fy i e2 with e3 | e3
            · exact (q i hi).2.2 e3
            · rw [lA] at e3; omega
    obtain ⟨a1, a2⟩ := kl u u' nu bu' lu ok.su
    obtain ⟨b1, b2⟩ := kl v v' nv bv' lv ok.sv
    have lb0 : (H ++ [AObj.own (rpC t u v), .own [.i 1, .u off, .k .u8 b], .own zr] ++ X).length ≤ K.length := by simp; omega
    refine fin K x1 y1 u' v' _ P1 (a1 _ hu') (b1 _ hv') (Sc.bel_mono bu' lb0) (Sc.bel_mono bv' lb0) (by omega) ?_ ?_ ?_ (a2 _ hu') (b2 _ hv')
    · intro k h1 h2 h3 h4
      rw [kp.keep k (by rw [lA]; omega) h2 h3 h4, List.append_assoc, List.append_assoc, hg_app h1]
    · intro i hi
      rcases kp.fx i hi with e | e
      · exact .inl e
      · right; rw [lA] at e; omega
    · intro i hi
      rcases kp.fy i hi with e | e
      · exact .inl e
      · right; rw [lA] at e; omega
  rw [if_neg k1]
  · have dp : deedP t kd off b = (inputP t b).1 := by unfold deedP; rw [if_neg k0, if_neg k1]
    simp only [dp] at fin nd dA dB ⊢
    obtain ⟨u', X, e1, nu, hu', hB', bu'⟩ := rinput_ok (ok0 [AObj.own (rpC t u v), .own [.i kd, .u off, .k .u8 b], .own zr]) (Sc.bel_mono ok.bu (by simp)) (Sc.bel_mono ok.bv (by simp)) hb
    rw [e1]
    obtain ⟨K, x1, e2, P1, kp⟩ := input_ok (pi_app (X := [AObj.own (rpC (inputP t b).1 u' v)]) (pi_app (X := X) (P0 [AObj.own (rpC t u v), .own [.i kd, .u off, .k .u8 b], .own zr]))) b (by omega)
    simp only [e2, beq_self_eq_true]
    refine ⟨_, x1, y, u', v, rfl, ?_⟩
    have lA : (H ++ [AObj.own (rpC t u v), .own [.i kd, .u off, .k .u8 b], .own zr] ++ X ++ [AObj.own (rpC (inputP t b).1 u' v)]).length = H.length + 3 + X.length + 1 := by simp; omega
    have ll := kp.len
    rw [lA] at ll
    have nu' := newS_of nu (Nat.le_refl _)
    simp only [newS, List.length_append, List.length_cons, List.length_nil] at nu'
    have q : ∀ i, sid u' = some i → i ≠ id ∧ sid x ≠ some i ∧ sid y ≠ some i := fun i hi => by
      rcases nu' i hi with e | e
      · exact ok.su i e
      · exact ⟨by omega, fun e2 => by have := lx i e2; omega, fun e2 => by have := ly i e2; omega⟩
    have lt : ∀ i, sid u' = some i → i < H.length + 3 + X.length := fun i hi => by
      have := sid_lt hu' bu' hi; simp at this; omega
    have lb0 : (H ++ [AObj.own (rpC t u v), .own [.i kd, .u off, .k .u8 b], .own zr] ++ X).length ≤ K.length := by simp; omega
    refine fin K x1 y u' v _ P1 (slD_kp hu' fun i hi => ?_) ?_ (Sc.bel_mono bu' lb0) (Sc.bel_mono ok.bv (by omega)) (by omega) ?_ ?_ (fun i hi => .inl hi) ?_ (fun i hi => .inl hi)
    · obtain ⟨d1, d2, d3⟩ := q i hi
      have l1 := lt i hi
      rw [kp.keep i (by rw [lA]; omega) d1 d2 d3, hg_app (by simp; omega)]
    · rw [hB']
      refine slD_kp ok.rp.hy fun i hi => ?_
      obtain ⟨d1, d2, d3⟩ := ok.sv i hi
      have := lv i hi
      rw [kp.keep i (by rw [lA]; omega) d1 d2 d3, List.append_assoc, List.append_assoc, hg_app (by omega)]
    · intro k h1 h2 h3 h4
      rw [kp.keep k (by rw [lA]; omega) h2 h3 h4, List.append_assoc, List.append_assoc, hg_app h1]
    · intro i hi
      rcases kp.fx i hi with e | e
      · exact .inl e
      · right; rw [lA] at e; omega
    · intro i hi
      rcases nu' i hi with e | e
      · exact .inl e
      · have l1 := lt i hi
        refine .inr ⟨e, fun e2 => ?_, fun e2 => ?_⟩
        · rcases kp.fx i e2 with e3 | e3
          · exact (q i hi).2.1 e3
          · rw [lA] at e3; omega
        · exact (q i hi).2.2 e2
/-- the same port, told both ways -/
theorem same_TB (t u : Pt) : sameT u t = sameB t u := by
  have f : ∀ a b : Bool, decide (f1 a = f1 b) = (b == a) := by intro a b; cases a <;> cases b <;> rfl
  have c : ∀ a b : Int, decide (a = b) = decide (b = a) := fun a b => decide_eq_decide.2 eq_comm
  have d : ∀ a b : List Int, decide (a = b) = decide (b = a) := fun a b => decide_eq_decide.2 eq_comm
  unfold sameT sameB numE
  rw [f, f, f, c u.e, c u.l, c u.m, c u.s, c u.dl, c u.dm, d u.A, d u.B]
  simp only [Bool.and_assoc]
theorem same_refl (t : Pt) : sameT t t = true := by unfold sameT numE; simp
theorem hold_refl (t : Pt) : holdT t t = true := by unfold holdT; simp
theorem do_app {H X : AH} {id : Nat} {t : Pt} {x y u v : Sc} (ok : DoOk H id t x y u v) : DoOk (H ++ X) id t x y u v :=
  ⟨pi_app ok.pi, rp_app ok.rp ok.bu ok.bv, Sc.bel_mono ok.bu (by simp), Sc.bel_mono ok.bv (by simp), ok.su, ok.sv⟩
theorem do_keep {H K : AH} {id : Nat} {t : Pt} {x y u v : Sc} (ok : DoOk H id t x y u v) (hl : H.length ≤ K.length) (hk : ∀ i, i = id ∨ sid x = some i ∨ sid y = some i ∨ sid u = some i ∨ sid v = some i → hg K i = hg H i) : DoOk K id t x y u v :=
  ⟨pi_keepU ok.pi fun i hi => hk i (by rcases hi with h | h | h <;> simp [h]), rp_mk ok.rp.nb (slD_kp ok.rp.hx fun i hi => hk i (by simp [hi])) (slD_kp ok.rp.hy fun i hi => hk i (by simp [hi])) ok.rp.la ok.rp.lb, Sc.bel_mono ok.bu hl, Sc.bel_mono ok.bv hl, ok.su, ok.sv⟩
end
end Go.Proofs.Ytfddaaplnnlfoaa
