/- The rules of walks as one set: no conditions. -/
import Derived.Test.YthjhkckndnhjpaaFr
set_option linter.unusedSimpArgs false
set_option linter.unusedVariables false
/- Walks: the rules as one set, and steps that are taken by hand. -/
namespace Go.Am
variable {P : Program} {tab : Tab} {k : List It} {fr : Fr} {H : AH} {Q : Fr → AH → Prop}

theorem w64_d {n : Int} (h1 : -9223372036854775808 ≤ n) (h2 : n ≤ 9223372036854775807) : w64 n = n := w64_id h1 h2
theorem ipos {α : Type} {c : Prop} [Decidable c] {a b : α} (h : c) : (if c then a else b) = a := if_pos h
theorem ineg {α : Type} {c : Prop} [Decidable c] {a b : α} (h : ¬ c) : (if c then a else b) = b := if_neg h
theorem dpos {p : Prop} [Decidable p] (h : p) : decide p = true := decide_eq_true h
theorem dneg {p : Prop} [Decidable p] (h : ¬ p) : decide p = false := decide_eq_false h
theorem cnd_by {a b : Code} {q : Bool} (h1 : q = true → cnd P tab a b k Q fr H (.c (.b true))) (h2 : q = false → cnd P tab a b k Q fr H (.c (.b false))) : cnd P tab a b k Q fr H (.c (.b q)) := by
  cases q
  · exact h2 rfl
  · exact h1 rfl
theorem grd_by {full : Array Oper} {os : List Oper} {d : Option Nat} {op : Op} {want q : Bool} (h1 : q = true → grd P tab full os k Q d op want fr H (.c (.b true))) (h2 : q = false → grd P tab full os k Q d op want fr H (.c (.b false))) :
    grd P tab full os k Q d op want fr H (.c (.b q)) := by
  cases q
  · exact h2 rfl
  · exact h1 rfl
theorem grdd_by {full : Array Oper} {os : List Oper} {i : Nat} {log : List (Nat × Tc)} {d : Option Nat} {op : Op} {want q : Bool} (h1 : q = true → grdd P tab full os i log k Q d op want fr H (.c (.b true)))
    (h2 : q = false → grdd P tab full os i log k Q d op want fr H (.c (.b false))) : grdd P tab full os i log k Q d op want fr H (.c (.b q)) := by
  cases q
  · exact h2 rfl
  · exact h1 rfl
theorem arun_straight {c : Code} (h : arun P tab (.c c :: .scp :: k) fr H Q) : arun P tab (.c (.scope c) :: k) fr H Q := by rw [arun_scope]; exact .inl h
/-- a scope out of which a jump ahead leads to one label -/
theorem arun_jump {c : Code} (l : Nat) (rest : Code) (J : Fr → AH → Prop) (hf : findLabel c l = some rest) (hw : cwt rest ≤ cwt c) (h1 : arun P tab (.c c :: .scj l J :: k) fr H Q)
    (h2 : ∀ fr H, J fr H → arun P tab (.c rest :: .scp :: k) fr H Q) : arun P tab (.c (.scope c) :: k) fr H Q := by rw [arun_scope]; exact .inr ⟨l, rest, J, hf, h1, hw, h2⟩
/-- a loop that counts -/
theorem arun_for {c : Code} (n : Nat) (F : Nat → Fr × AH) (h0 : Wk (lo tab) fr H (F 0))
    (h : ∀ i, i ≤ n → arun P tab (.c c :: .back (fun fr H => ∃ j, i < j ∧ j ≤ n ∧ Wk (lo tab) fr H (F j)) :: k) (F i).1 (F i).2 Q) : arun P tab (.c (.loop c) :: k) fr H Q := by
  rw [arun_loop]
  refine ⟨{i : Nat // i ≤ n}, fun i => F i.1, fun i => n - i.1, ⟨0, Nat.zero_le _⟩, h0, fun i => ?_⟩
  have e : (fun fr H => ∃ j, i.1 < j ∧ j ≤ n ∧ Wk (lo tab) fr H (F j)) = (fun fr H => ∃ j : {i : Nat // i ≤ n}, n - j.1 < n - i.1 ∧ Wk (lo tab) fr H (F j.1)) := by
    funext fr H
    refine propext ⟨fun ⟨j, h1, h2, h3⟩ => ⟨⟨j, h2⟩, by have := i.2; simp only; omega, h3⟩, fun ⟨j, h1, h3⟩ => ⟨j.1, by have := i.2; have := j.2; omega, j.2, h3⟩⟩
  have := h i.1 i.2
  rw [e] at this
  exact this
theorem nxt_of {full : Array Oper} {os : List Oper} {d : Option Nat} {r : Option (AV × AH)} {v : AV} {H' : AH} (e : r = some (v, H')) (h : nxt P tab full os k Q d fr (some (v, H'))) : nxt P tab full os k Q d fr r := by rw [e]; exact h
/-- a short slice that is written out -/
def bsB (P : Program) (t len : Nat) (is : List Nat) (m : Nat) (vs : List AV) (H : AH) : Option (AV × AH) :=
  match dT P t with
  | .sl e =>
    match zT P e with
    | some z =>
      if 0 < szT P e ∧ 0 < len ∧ len * szT P e ≤ 16777216 ∧ z.length = szT P e then
        match fillA (fun i => some (i * szT P e, szT P e)) (List.replicate len z).flatten (is.zip vs) with
        | some cs => some (.c (.sl H.length 0 cs.length len), H ++ [.vec (szT P e) cs])
        | none => none
      else if 0 < szT P e ∧ len = 0 ∧ m = 0 then some (.c (.sl H.length 0 0 0), H ++ [.vec (szT P e) []])
      else none
    | none => none
  | _ => none
theorem bsA_s {t len m : Nat} {is : List Nat} {vs : List AV} (_ : len ≤ 24) : bsA P t len is m vs H = bsB P t len is m vs H := rfl
theorem ev_str {l : List UInt8} (h : l.length ≤ 9223372036854775807) : ev fr (.const (.string ⟨l.toArray⟩)) = .c (.s ⟨l.toArray⟩) := by
  have h2 : ByteArray.size ⟨l.toArray⟩ ≤ 9223372036854775807 := h
  simp only [ev, absC, absS, h2, if_true]
theorem ab_s_add {t : Nat} {a b : ByteArray} : abin P .add t (.c (.s a)) (.c (.s b)) = if a.size + b.size ≤ 9223372036854775807 then some (.c (.s (a ++ b))) else none := rfl
/-- a length, by what its type is -/
def lenB (d : D) (x : AV) : Option AV :=
  match d, x with
  | .sl _, .c (.sl _ _ _ len) => some (.c (.i len))
  | .sl _, .c .nils => some (.c (.i 0))
  | .str, .c (.s s) => some (.c (.i s.size))
  | .arr n _, _ => if n ≤ 1048576 then some (.c (.i n)) else none
  | _, _ => none
theorem lenA_B {t : Nat} {x : AV} : lenA P t x = lenB (dT P t) x := rfl
theorem lenB_sl {e id off ver n : Nat} : lenB (.sl e) (.c (.sl id off ver n)) = some (.c (.i n)) := rfl
theorem lenB_nils {e : Nat} : lenB (.sl e) (.c .nils) = some (.c (.i 0)) := rfl
theorem lenB_str {s : ByteArray} : lenB .str (.c (.s s)) = some (.c (.i s.size)) := rfl
theorem lenB_arr {n e : Nat} {x : AV} : lenB (.arr n e) x = if n ≤ 1048576 then some (.c (.i n)) else none := rfl
/-- a slice of one thing -/
theorem bsA_1 {t m : Nat} {x : AV} : bsA P t 1 [0] m [x] H = (match dT P t, x.cells with
    | .sl e, some l => if 0 < szT P e ∧ szT P e ≤ 16777216 ∧ ((zT P e).map List.length) = some (szT P e) ∧ l.length = szT P e then some (.c (.sl H.length 0 (szT P e) 1), H ++ [.vec (szT P e) l]) else bsB P t 1 [0] m [x] H
    | _, _ => bsB P t 1 [0] m [x] H) := by
  split
  · rename_i e l hd hl
    split
    · rename_i hc
      obtain ⟨h1, h2, h3, h4⟩ := hc
      cases hz : zT P e with
      | none => rw [hz] at h3; simp at h3
      | some z =>
        rw [hz] at h3
        simp only [Option.map_some, Option.some.injEq] at h3
        have e1 : wr z 0 l = l := by
          unfold wr
          rw [List.take_zero, List.nil_append, Nat.zero_add, h4, ← h3, List.drop_length, List.append_nil]
        simp [bsA, hd, hz, h1, h2, h3, fillA, hl, h4, e1]
    · rfl
  · rfl
theorem bs_size {l : List UInt8} : ByteArray.size ⟨l.toArray⟩ = l.length := rfl
end Go.Am

namespace Go.Am
attribute [go_sem] frA arun_scp arun_scj arun_label arun_goto popJ arun_nil arun_blk arun_back arun_ops_nil arun_skip arun_rgn arun_rgd arun_dr_nil gd_eq sd_go sd_gd nd_no nn_no nd_ld nd_mk nd_rd nd_bar nn_rd nn_bar nn_st gdd_tt gdd_ff gdd_tf gdd_ft gdd_u gdd_ntf gdd_nft gdd_nu tc_load tc_store tc_alloc tc_box tc_buildSlice tc_makeSlice tc_call tc_move tc_assign tc_pick tc_build tc_nilCheck tc_binOp tc_unOp tc_convert tv_i tv_u tv_k tv_s tv_sl tv_nils tc_makeFunc tc_fieldAddr tc_field tc_indexAddr tc_index tc_slice tc_extract tc_len tc_min tc_max tc_append tl_eq ts_eq tcC ok_nil ok_cons oe_ll oe_ls oe_lm oe_lr oe_lb oe_sl oe_ss oe_sm oe_sr oe_sb oe_ml oe_ms oe_mm oe_mr oe_mb oe_rl oe_rs oe_rm oe_rr oe_rb oe_bl oe_bs oe_bm oe_br oe_bb cl_ll cl_lm cl_lr cl_ls cl_lb cl_sl cl_ss cl_sm cl_sr cl_sb cl_ml cl_ms cl_mm cl_mr cl_mb cl_rl cl_rs cl_rm cl_rr cl_rb cl_bl cl_bs cl_bm cl_br cl_bb arun_seq arun_block arun_ret arun_exit arun_cnd cnd_tt cnd_ff cnd_qq popB nxt_put nxt_non putA_some putA_none st_go st_gd gslot dstA List.getElem?_toArray grd_tt grd_ff grd_tf grd_ft grd_u grd_ntf grd_nft grd_nu op_move op_assign op_box op_load op_nilCheck op_unOp op_convert op_fieldAddr op_field op_extract op_pick op_build op_buildSlice op_store op_binOp op_makeSlice op_indexAddr op_index op_makeFunc op_slice op_call op_builtin op_alloc as_move as_assign as_pick as_build as_load as_nilCheck as_nilCheckf as_bin as_un as_cv_i as_cv_u as_cv_k as_cv_s as_cv_sl as_cv_nils cvS as_makeFunc as_fieldAddr as_field as_indexAddr as_index as_slice00 as_slice10 as_slice01 as_slice11 as_extract as_len as_min as_max as_append as_call as_alloc as_box as_store as_buildSlice bsB bsA_s ev_str bs_size ab_s_add List.size_toArray List.toList_toArray Nat.mul_one Nat.one_mul Nat.zero_mul Nat.mul_zero Nat.zero_add Nat.add_zero as_makeSlice msA appA srcA List.flatten_cons List.flatten_nil ev_tmp ev_func ev_i ev_u ev_b ev_nils ev_nilp ev_nilf get_same get_ne List.map_cons List.map_nil List.map_toArray ab_u_add ab_u_sub ab_u_mul ab_u_quo ab_u_rem ab_u_and ab_u_or ab_u_xor ab_u_andNot ab_u_eql ab_u_neq ab_u_lss ab_u_leq ab_u_gtr ab_u_geq ab_u_shl ab_u_shr ab_i_add ab_i_sub ab_i_mul ab_i_quo ab_i_rem ab_i_eql ab_i_neq ab_i_lss ab_i_leq ab_i_gtr ab_i_geq ab_i_shlu ab_i_shru ab_b_eql ab_b_neq ab_s_eql ab_s_neq au_not au_neg_i au_neg_u au_xor_u ev_i8 cv_u_i8 cv_i_i8 cv_k_i8 ev_i16 cv_u_i16 cv_i_i16 cv_k_i16 ev_i32 cv_u_i32 cv_i_i32 cv_k_i32 ev_u8 cv_u_u8 cv_i_u8 cv_k_u8 ev_u16 cv_u_u16 cv_i_u16 cv_k_u16 ev_u32 cv_u_u32 cv_i_u32 cv_k_u32 cv_k_i64 cv_k_u64 ab_k_add ab_k_sub ab_k_mul ab_k_and ab_k_or ab_k_xor ab_k_andNot ab_k_eql ab_k_neq ab_k_lss ab_k_leq ab_k_gtr ab_k_geq ab_k_shlu ab_k_shru cv_ii cv_ui cv_iu cv_uu Option.map_some Option.bind_some Int.toNat_natCast Int.cast_ofNat_Int and_self and_true true_and if_true if_false ite_true ite_false Option.toList_some Option.toList_none sliceA loOf hiOf allocA storeA callA Am.look buildA fillA placeA fldA fldV D.agg D.is rd wr ldA indexAddrA indexA ixA lenA_B lenB_sl lenB_nils lenB_str lenB_arr AV.cells oc_own oc_vec oc_view or_own or_vec or_view oo_own oo_vec ol_own ol_vec ol_view op_own op_vec Sc.one caps capV hg_zero hg_succ hg_len hg_len_add set_len set_len_add List.set_set List.length_nil List.length_cons List.nil_append List.append_nil List.cons_append List.append_assoc List.length_append List.getElem?_cons_zero List.getElem?_cons_succ List.getD_cons_zero List.getD_cons_succ List.zip_cons_cons List.zip_nil_right List.zip_nil_left List.take_zero List.take_nil List.take_succ_cons List.drop_succ_cons List.drop_zero List.drop_nil List.all_cons List.all_nil Bool.and_true Bool.true_and List.set_cons_zero List.set_cons_succ true_or or_true false_or or_false Bool.true_or Bool.or_true Bool.false_or Bool.or_false decide_true decide_false beq_self_eq_true not_true_eq_false not_false_eq_true decide_eq_true_eq Bool.not_eq_true' Bool.not_true Bool.not_false Bool.false_eq_true Bool.not_eq_eq_eq_not decide_eq_false_iff_not imp_self false_imp_iff true_imp_iff forall_const Bool.true_eq_false eq_self Bool.true_beq Bool.false_beq Bool.and_false Bool.false_and csEq scEq eqU resA resL res1 AV.flat
end Go.Am
