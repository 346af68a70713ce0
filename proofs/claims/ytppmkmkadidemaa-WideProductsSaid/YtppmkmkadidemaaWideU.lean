/- Contracts of layer 2: quotients of wide numbers; and plain laws of them. -/
import Derived.Test.YtppmkmkadidemaaWideH
namespace Go.Proofs.Ytppmkmkadidemaa
open Go.Am
set_option linter.unusedSimpArgs false
set_option linter.unusedVariables false
noncomputable section

theorem s_take_eq {part : BitVec 64} {i j : Nat} {H : AH} : s_take [.c (.u part), .c (.p i 0 0), .c (.p j 0 0)] H =
    match hg H i, hg H j with
    | .own [.u rest], .own [.u b] => if i = j then none else some (.c (.u (tk part b (rest, 0#64) 64).2), H.set i (.own [.u (tk part b (rest, 0#64) 64).1]))
    | _, _ => none := rfl
def oH (hi b : BitVec 64) : BitVec 64 := if b = 0#64 then 0#64 else (tk hi b (0#64, 0#64) 64).2
def oL (hi lo b : BitVec 64) : BitVec 64 := if b = 0#64 then 0#64 else (tk lo b ((tk hi b (0#64, 0#64) 64).1, 0#64) 64).2
def oR (hi lo b : BitVec 64) : BitVec 64 := if b = 0#64 then 0#64 else (tk lo b ((tk hi b (0#64, 0#64) 64).1, 0#64) 64).1
def s_over (args : List AV) : Option AV :=
  match args with
  | [.g [.u hi, .u lo], .c (.u b)] => some (.t [.g [.u (oH hi b), .u (oL hi lo b)], .c (.u (oR hi lo b)), .c (.b (!decide (b = 0#64)))])
  | _ => none
theorem s_over_eq {hi lo b} : s_over [.g [.u hi, .u lo], .c (.u b)] = some (.t [.g [.u (oH hi b), .u (oL hi lo b)], .c (.u (oR hi lo b)), .c (.b (!decide (b = 0#64)))]) := rfl
set_option maxRecDepth 100000 in
set_option maxHeartbeats 2000000 in
theorem ok_over : PuOk Try.prog 17 s_over := by
  refine pu_ok (tab := [(31, .fp s_take)]) hmix (TabOk.cons (e := .fp s_take) ok_take TabOk.nil) Try.func17 rfl Try.results17 Try.ntmps17 (by kernel_rfl) (by kernel_rfl) ?_
  intro args v h
  unfold s_over at h
  split at h
  · rename_i hi lo b
    simp only [Option.some.injEq] at h; subst h
    refine ⟨by simp only [List.length_cons, List.length_nil]; decide, rfl, rfl, ?_⟩
    by_cases h : b = 0#64
    · simp (config := { maxSteps := 10000000 }) only [frA, arun_nil, arun_blk, arun_back, arun_ops_nil, arun_skip, arun_rgn, arun_rgd, arun_dr_nil, gd_eq, sd_go, sd_gd, nd_no, nn_no, nd_ld, nd_mk, nd_rd, nd_bar, nn_rd, nn_bar, nn_st, gdd_tt, gdd_ff, gdd_tf, gdd_ft, gdd_u, gdd_ntf, gdd_nft, gdd_nu, tc_load, tc_store, tc_alloc, tc_box, tc_buildSlice, tc_makeSlice, tc_call, tc_move, tc_assign, tc_pick, tc_build, tc_nilCheck, tc_binOp, tc_unOp, tc_convert, tc_makeFunc, tc_fieldAddr, tc_field, tc_indexAddr, tc_index, tc_slice, tc_extract, tc_len, tc_min, tc_max, tc_append, tl_eq, ts_eq, tcC, ok_nil, ok_cons, cl_ll, cl_lm, cl_lr, cl_ls, cl_lb, cl_sl, cl_ss, cl_sm, cl_sr, cl_sb, cl_ml, cl_ms, cl_mm, cl_mr, cl_mb, cl_rl, cl_rs, cl_rm, cl_rr, cl_rb, cl_bl, cl_bs, cl_bm, cl_br, cl_bb, arun_seq, arun_block, arun_ret, arun_exit, arun_cnd, cnd_tt, cnd_ff, popB, nxt_put, nxt_non, putA_some, putA_none, st_go, st_gd, gslot, dstA, List.getElem?_toArray, grd_tt, grd_ff, grd_tf, grd_ft, grd_u, grd_ntf, grd_nft, grd_nu, op_move, op_assign, op_box, op_load, op_nilCheck, op_unOp, op_convert, op_fieldAddr, op_field, op_extract, op_pick, op_build, op_buildSlice, op_store, op_binOp, op_makeSlice, op_indexAddr, op_index, op_makeFunc, op_slice, op_call, op_builtin, op_alloc, as_move, as_assign, as_pick, as_build, as_load, as_nilCheck, as_nilCheckf, as_bin, as_un, as_convert, as_makeFunc, as_fieldAddr, as_field, as_indexAddr, as_index, as_slice00, as_slice10, as_slice01, as_slice11, as_extract, as_len, as_min, as_max, as_append, as_call, as_alloc, as_box, as_store, as_buildSlice, bsA, List.size_toArray, List.toList_toArray, Nat.mul_one, Nat.one_mul, Nat.zero_mul, Nat.mul_zero, Nat.zero_add, Nat.add_zero, as_makeSlice, msA, appA, srcA, List.reduceReplicate, List.flatten_cons, List.flatten_nil, ev_tmp, ev_func, ev_i, ev_u, ev_b, ev_nils, ev_nilp, ev_nilf, get_same, get_ne, List.map_cons, List.map_nil, List.map_toArray, ab_u_add, ab_u_sub, ab_u_mul, ab_u_quo, ab_u_rem, ab_u_and, ab_u_or, ab_u_xor, ab_u_andNot, ab_u_eql, ab_u_neq, ab_u_lss, ab_u_leq, ab_u_gtr, ab_u_geq, ab_u_shl, ab_u_shr, ab_i_add, ab_i_sub, ab_i_mul, ab_i_quo, ab_i_rem, ab_i_eql, ab_i_neq, ab_i_lss, ab_i_leq, ab_i_gtr, ab_i_geq, ab_i_shlu, ab_i_shru, ab_b_eql, ab_b_neq, ab_s_eql, ab_s_neq, au_not, au_neg_i, au_neg_u, au_xor_u, ev_i8, cv_u_i8, cv_i_i8, cv_k_i8, ev_i16, cv_u_i16, cv_i_i16, cv_k_i16, ev_i32, cv_u_i32, cv_i_i32, cv_k_i32, ev_u8, cv_u_u8, cv_i_u8, cv_k_u8, ev_u16, cv_u_u16, cv_i_u16, cv_k_u16, ev_u32, cv_u_u32, cv_i_u32, cv_k_u32, cv_k_i64, cv_k_u64, ab_k_add, ab_k_sub, ab_k_mul, ab_k_and, ab_k_or, ab_k_eql, ab_k_neq, ab_k_lss, ab_k_leq, ab_k_gtr, ab_k_geq, ab_k_shlu, ab_k_shru, cv_ii, cv_ui, cv_iu, cv_uu, Option.map_some, Option.bind_some, BitVec.reduceOfInt, BitVec.reduceToNat, BitVec.reduceToInt, BitVec.reduceEq, BitVec.reduceLT, BitVec.reduceLE, BitVec.reduceAdd, BitVec.reduceSub, BitVec.reduceMul, BitVec.reduceUDiv, BitVec.reduceUMod, BitVec.reduceAnd, BitVec.reduceOr, BitVec.reduceXOr, BitVec.reduceNot, BitVec.reduceNeg, BitVec.reduceHShiftLeft, BitVec.reduceHShiftRight, Nat.reduceAdd, Nat.reduceMul, Nat.reduceSub, Nat.reduceBEq, Nat.reduceEqDiff, Nat.reduceLeDiff, Nat.reduceLT, Int.reduceLE, Int.reduceLT, Int.reduceAdd, Int.reduceSub, Int.reduceMul, Int.reduceNeg, Int.reduceToNat, Int.reduceEq, Int.toNat_natCast, Int.cast_ofNat_Int, and_self, and_true, true_and, if_true, if_false, ite_true, ite_false, ↓reduceIte, allocA, storeA, callA, Am.look, buildA, fillA, placeA, fldA, fldV, D.agg, D.is, rd, wr, ldA, indexAddrA, indexA, ixA, lenA, AV.cells, oc_own, oc_vec, oc_view, or_own, or_vec, or_view, oo_own, oo_vec, op_own, op_vec, Sc.one, caps, capV, hg_zero, hg_succ, hg_len, hg_len_add, set_len, set_len_add, List.set_set, wr, List.length_nil, List.length_cons, List.nil_append, List.append_nil, List.cons_append, List.append_assoc, List.length_append, List.getElem?_cons_zero, List.getElem?_cons_succ, List.getD_cons_zero, List.getD_cons_succ, List.zip_cons_cons, List.zip_nil_right, List.zip_nil_left, List.take_zero, List.take_nil, List.take_succ_cons, List.drop_succ_cons, List.drop_zero, List.drop_nil, List.all_cons, List.all_nil, Bool.and_true, Bool.true_and, List.set_cons_zero, List.set_cons_succ, decide_true, decide_false, decide_eq_true_eq, Bool.not_eq_true', Bool.not_true, Bool.not_false, Bool.false_eq_true, reduceCtorEq, Bool.not_eq_eq_eq_not, decide_eq_false_iff_not, imp_self, false_imp_iff, true_imp_iff, forall_const, Bool.true_eq_false, eq_self, Bool.true_beq, Bool.false_beq, Bool.and_false, Bool.false_and, csEq, scEq, eqU, resA, resL, res1, AV.flat, dT1, sT1, bT1, zT1, dT2, sT2, bT2, zT2, dT3, sT3, bT3, zT3, dT4, sT4, bT4, zT4, dT5, sT5, bT5, zT5, dT7, sT7, bT7, zT7, dT9, sT9, bT9, zT9, dT12, sT12, bT12, zT12, dT13, sT13, bT13, zT13, dT21, sT21, bT21, zT21, dT22, sT22, bT22, zT22, dT23, sT23, bT23, zT23, dT24, sT24, bT24, zT24, dT25, sT25, bT25, zT25, dT26, sT26, bT26, zT26, dT27, sT27, bT27, zT27, eqT27, neT27, dT28, sT28, bT28, zT28, dT29, sT29, bT29, zT29, eqT29, neT29, dT30, sT30, bT30, zT30, dT31, sT31, bT31, zT31, dT33, sT33, bT33, zT33, dT35, sT35, bT35, zT35, dT36, sT36, bT36, zT36, dT38, sT38, bT38, zT38, dT39, sT39, bT39, zT39, dT40, sT40, bT40, zT40, dT41, sT41, bT41, zT41, dT42, sT42, bT42, zT42, dT43, sT43, bT43, zT43, dT44, sT44, bT44, zT44, dT45, sT45, bT45, zT45, dT46, sT46, bT46, zT46, dT47, sT47, bT47, zT47, dT48, sT48, bT48, zT48, dT49, sT49, bT49, zT49, dT50, sT50, bT50, zT50, dT51, sT51, bT51, zT51, dT53, sT53, bT53, zT53, dT54, sT54, bT54, zT54, dT55, sT55, bT55, zT55, dT56, sT56, bT56, zT56, dT58, sT58, bT58, zT58, dT59, sT59, bT59, zT59, dT65, sT65, bT65, zT65, dT68, sT68, bT68, zT68, dT69, sT69, bT69, zT69, dT72, sT72, bT72, zT72, s_take_eq, oH, oL, oR, h]
    · simp (config := { maxSteps := 10000000 }) only [frA, arun_nil, arun_blk, arun_back, arun_ops_nil, arun_skip, arun_rgn, arun_rgd, arun_dr_nil, gd_eq, sd_go, sd_gd, nd_no, nn_no, nd_ld, nd_mk, nd_rd, nd_bar, nn_rd, nn_bar, nn_st, gdd_tt, gdd_ff, gdd_tf, gdd_ft, gdd_u, gdd_ntf, gdd_nft, gdd_nu, tc_load, tc_store, tc_alloc, tc_box, tc_buildSlice, tc_makeSlice, tc_call, tc_move, tc_assign, tc_pick, tc_build, tc_nilCheck, tc_binOp, tc_unOp, tc_convert, tc_makeFunc, tc_fieldAddr, tc_field, tc_indexAddr, tc_index, tc_slice, tc_extract, tc_len, tc_min, tc_max, tc_append, tl_eq, ts_eq, tcC, ok_nil, ok_cons, cl_ll, cl_lm, cl_lr, cl_ls, cl_lb, cl_sl, cl_ss, cl_sm, cl_sr, cl_sb, cl_ml, cl_ms, cl_mm, cl_mr, cl_mb, cl_rl, cl_rs, cl_rm, cl_rr, cl_rb, cl_bl, cl_bs, cl_bm, cl_br, cl_bb, arun_seq, arun_block, arun_ret, arun_exit, arun_cnd, cnd_tt, cnd_ff, popB, nxt_put, nxt_non, putA_some, putA_none, st_go, st_gd, gslot, dstA, List.getElem?_toArray, grd_tt, grd_ff, grd_tf, grd_ft, grd_u, grd_ntf, grd_nft, grd_nu, op_move, op_assign, op_box, op_load, op_nilCheck, op_unOp, op_convert, op_fieldAddr, op_field, op_extract, op_pick, op_build, op_buildSlice, op_store, op_binOp, op_makeSlice, op_indexAddr, op_index, op_makeFunc, op_slice, op_call, op_builtin, op_alloc, as_move, as_assign, as_pick, as_build, as_load, as_nilCheck, as_nilCheckf, as_bin, as_un, as_convert, as_makeFunc, as_fieldAddr, as_field, as_indexAddr, as_index, as_slice00, as_slice10, as_slice01, as_slice11, as_extract, as_len, as_min, as_max, as_append, as_call, as_alloc, as_box, as_store, as_buildSlice, bsA, List.size_toArray, List.toList_toArray, Nat.mul_one, Nat.one_mul, Nat.zero_mul, Nat.mul_zero, Nat.zero_add, Nat.add_zero, as_makeSlice, msA, appA, srcA, List.reduceReplicate, List.flatten_cons, List.flatten_nil, ev_tmp, ev_func, ev_i, ev_u, ev_b, ev_nils, ev_nilp, ev_nilf, get_same, get_ne, List.map_cons, List.map_nil, List.map_toArray, ab_u_add, ab_u_sub, ab_u_mul, ab_u_quo, ab_u_rem, ab_u_and, ab_u_or, ab_u_xor, ab_u_andNot, ab_u_eql, ab_u_neq, ab_u_lss, ab_u_leq, ab_u_gtr, ab_u_geq, ab_u_shl, ab_u_shr, ab_i_add, ab_i_sub, ab_i_mul, ab_i_quo, ab_i_rem, ab_i_eql, ab_i_neq, ab_i_lss, ab_i_leq, ab_i_gtr, ab_i_geq, ab_i_shlu, ab_i_shru, ab_b_eql, ab_b_neq, ab_s_eql, ab_s_neq, au_not, au_neg_i, au_neg_u, au_xor_u, ev_i8, cv_u_i8, cv_i_i8, cv_k_i8, ev_i16, cv_u_i16, cv_i_i16, cv_k_i16, ev_i32, cv_u_i32, cv_i_i32, cv_k_i32, ev_u8, cv_u_u8, cv_i_u8, cv_k_u8, ev_u16, cv_u_u16, cv_i_u16, cv_k_u16, ev_u32, cv_u_u32, cv_i_u32, cv_k_u32, cv_k_i64, cv_k_u64, ab_k_add, ab_k_sub, ab_k_mul, ab_k_and, ab_k_or, ab_k_eql, ab_k_neq, ab_k_lss, ab_k_leq, ab_k_gtr, ab_k_geq, ab_k_shlu, ab_k_shru, cv_ii, cv_ui, cv_iu, cv_uu, Option.map_some, Option.bind_some, BitVec.reduceOfInt, BitVec.reduceToNat, BitVec.reduceToInt, BitVec.reduceEq, BitVec.reduceLT, BitVec.reduceLE, BitVec.reduceAdd, BitVec.reduceSub, BitVec.reduceMul, BitVec.reduceUDiv, BitVec.reduceUMod, BitVec.reduceAnd, BitVec.reduceOr, BitVec.reduceXOr, BitVec.reduceNot, BitVec.reduceNeg, BitVec.reduceHShiftLeft, BitVec.reduceHShiftRight, Nat.reduceAdd, Nat.reduceMul, Nat.reduceSub, Nat.reduceBEq, Nat.reduceEqDiff, Nat.reduceLeDiff, Nat.reduceLT, Int.reduceLE, Int.reduceLT, Int.reduceAdd, Int.reduceSub, Int.reduceMul, Int.reduceNeg, Int.reduceToNat, Int.reduceEq, Int.toNat_natCast, Int.cast_ofNat_Int, and_self, and_true, true_and, if_true, if_false, ite_true, ite_false, ↓reduceIte, allocA, storeA, callA, Am.look, buildA, fillA, placeA, fldA, fldV, D.agg, D.is, rd, wr, ldA, indexAddrA, indexA, ixA, lenA, AV.cells, oc_own, oc_vec, oc_view, or_own, or_vec, or_view, oo_own, oo_vec, op_own, op_vec, Sc.one, caps, capV, hg_zero, hg_succ, hg_len, hg_len_add, set_len, set_len_add, List.set_set, wr, List.length_nil, List.length_cons, List.nil_append, List.append_nil, List.cons_append, List.append_assoc, List.length_append, List.getElem?_cons_zero, List.getElem?_cons_succ, List.getD_cons_zero, List.getD_cons_succ, List.zip_cons_cons, List.zip_nil_right, List.zip_nil_left, List.take_zero, List.take_nil, List.take_succ_cons, List.drop_succ_cons, List.drop_zero, List.drop_nil, List.all_cons, List.all_nil, Bool.and_true, Bool.true_and, List.set_cons_zero, List.set_cons_succ, decide_true, decide_false, decide_eq_true_eq, Bool.not_eq_true', Bool.not_true, Bool.not_false, Bool.false_eq_true, reduceCtorEq, Bool.not_eq_eq_eq_not, decide_eq_false_iff_not, imp_self, false_imp_iff, true_imp_iff, forall_const, Bool.true_eq_false, eq_self, Bool.true_beq, Bool.false_beq, Bool.and_false, Bool.false_and, csEq, scEq, eqU, resA, resL, res1, AV.flat, dT1, sT1, bT1, zT1, dT2, sT2, bT2, zT2, dT3, sT3, bT3, zT3, dT4, sT4, bT4, zT4, dT5, sT5, bT5, zT5, dT7, sT7, bT7, zT7, dT9, sT9, bT9, zT9, dT12, sT12, bT12, zT12, dT13, sT13, bT13, zT13, dT21, sT21, bT21, zT21, dT22, sT22, bT22, zT22, dT23, sT23, bT23, zT23, dT24, sT24, bT24, zT24, dT25, sT25, bT25, zT25, dT26, sT26, bT26, zT26, dT27, sT27, bT27, zT27, eqT27, neT27, dT28, sT28, bT28, zT28, dT29, sT29, bT29, zT29, eqT29, neT29, dT30, sT30, bT30, zT30, dT31, sT31, bT31, zT31, dT33, sT33, bT33, zT33, dT35, sT35, bT35, zT35, dT36, sT36, bT36, zT36, dT38, sT38, bT38, zT38, dT39, sT39, bT39, zT39, dT40, sT40, bT40, zT40, dT41, sT41, bT41, zT41, dT42, sT42, bT42, zT42, dT43, sT43, bT43, zT43, dT44, sT44, bT44, zT44, dT45, sT45, bT45, zT45, dT46, sT46, bT46, zT46, dT47, sT47, bT47, zT47, dT48, sT48, bT48, zT48, dT49, sT49, bT49, zT49, dT50, sT50, bT50, zT50, dT51, sT51, bT51, zT51, dT53, sT53, bT53, zT53, dT54, sT54, bT54, zT54, dT55, sT55, bT55, zT55, dT56, sT56, bT56, zT56, dT58, sT58, bT58, zT58, dT59, sT59, bT59, zT59, dT65, sT65, bT65, zT65, dT68, sT68, bT68, zT68, dT69, sT69, bT69, zT69, dT72, sT72, bT72, zT72, s_take_eq, oH, oL, oR, h]
  · simp at h

theorem or_bit (r p : BitVec 64) : (r <<< 1 ||| (p &&& 1#64)).toNat = (2 * r.toNat) % 2 ^ 64 + p.toNat % 2 := by
  have h : (r <<< 1) &&& (p &&& 1#64) = 0#64 := by
    apply BitVec.eq_of_getLsbD_eq
    intro i hi
    simp only [BitVec.getLsbD_and, BitVec.getLsbD_shiftLeft, BitVec.getLsbD_one, BitVec.getLsbD_zero]
    by_cases h : i = 0
    · subst h; simp
    · simp [h]
  rw [← BitVec.add_eq_or_of_and_eq_zero _ _ h, BitVec.toNat_add, BitVec.toNat_shiftLeft, BitVec.toNat_and]
  simp only [BitVec.toNat_ofNat, Nat.shiftLeft_eq]
  have e : p.toNat &&& 1 % 2 ^ 64 = p.toNat % 2 := by rw [Nat.mod_eq_of_lt (by omega)]; exact Nat.and_one_is_mod _
  rw [e]; omega

theorem tk_inv {part b r0 : BitVec 64} (hb : b ≠ 0#64) (hr : r0.toNat < b.toNat) (k : Nat) (hk : k ≤ 64) :
    (tk part b (r0, 0#64) k).1.toNat = (r0.toNat * 2 ^ k + part.toNat / 2 ^ (64 - k)) % b.toNat ∧ (tk part b (r0, 0#64) k).2.toNat = (r0.toNat * 2 ^ k + part.toNat / 2 ^ (64 - k)) / b.toNat ∧ (tk part b (r0, 0#64) k).2.toNat < 2 ^ k := by
  have hp : part.toNat < 2 ^ 64 := part.isLt
  have hb0 : 0 < b.toNat := by omega
  induction k with
  | zero =>
    have : part.toNat / 2 ^ 64 = 0 := by omega
    simp [tk, this, Nat.mod_eq_of_lt hr, Nat.div_eq_of_lt hr]
  | succ k ih =>
    obtain ⟨h1, h2, h3⟩ := ih (by omega)
    have hM : r0.toNat * 2 ^ (k + 1) + part.toNat / 2 ^ (64 - (k + 1)) = 2 * (r0.toNat * 2 ^ k + part.toNat / 2 ^ (64 - k)) + part.toNat / 2 ^ (63 - k) % 2 := by
      have e1 : 64 - (k + 1) = 63 - k := by omega
      have e2 : 64 - k = (63 - k) + 1 := by omega
      rw [e1, e2, Nat.pow_succ, Nat.pow_succ, ← Nat.div_div_eq_div_mul, ← Nat.mul_assoc]
      omega
    have hst := ov_step hb0 hM h1
    have hbit : part.toNat / 2 ^ (63 - k) % 2 < 2 := Nat.mod_lt _ (by omega)
    have hrb : (tk part b (r0, 0#64) k).1.toNat < b.toNat := by rw [h1]; exact Nat.mod_lt _ hb0
    have hbl : b.toNat < 2 ^ 64 := b.isLt
    have hpk : 2 ^ k * 2 ≤ 2 ^ 64 := by rw [← Nat.pow_succ]; exact Nat.pow_le_pow_right (by omega) hk
    simp only [tk]
    generalize tk part b (r0, 0#64) k = T at *
    have e1 : (T.1 <<< 1 ||| (part >>> (63 - k) &&& 1#64)).toNat = (2 * T.1.toNat) % 2 ^ 64 + part.toNat / 2 ^ (63 - k) % 2 := by
      rw [or_bit, BitVec.toNat_ushiftRight, Nat.shiftRight_eq_div_pow]
    have e2 : T.1 >>> 63 = 1#64 ↔ 2 ^ 63 ≤ T.1.toNat := by
      have hT := T.1.isLt
      constructor
      · intro h
        have := congrArg BitVec.toNat h
        simp [Nat.shiftRight_eq_div_pow] at this
        omega
      · intro h
        apply BitVec.eq_of_toNat_eq
        simp [Nat.shiftRight_eq_div_pow]
        omega
    have e3 : (T.2 <<< 1).toNat = 2 * T.2.toNat := by
      rw [BitVec.toNat_shiftLeft, Nat.shiftLeft_eq, Nat.mod_eq_of_lt (by omega)]; omega
    have e4 : (T.2 <<< 1 ||| 1#64).toNat = 2 * T.2.toNat + 1 := by
      have := or_bit T.2 1#64
      simp only [BitVec.and_self] at this
      rw [this]; simp; omega
    generalize part.toNat / 2 ^ (63 - k) % 2 = bit at *
    have hc : (T.1 >>> 63 = 1#64 ∨ b ≤ (T.1 <<< 1 ||| (part >>> (63 - k) &&& 1#64))) ↔ b.toNat ≤ 2 * T.1.toNat + bit := by
      rw [e2, BitVec.le_def, e1]; omega
    rw [hM] at hst ⊢
    have hpow : 2 ^ (k + 1) = 2 ^ k * 2 := Nat.pow_succ ..
    by_cases h : b.toNat ≤ 2 * T.1.toNat + bit
    · rw [if_pos (hc.2 h)]
      obtain ⟨g1, g2⟩ := hst.2 h hbit
      rw [g1, g2]
      refine ⟨?_, by rw [e4]; omega, by rw [e4]; omega⟩
      rw [BitVec.toNat_sub, e1]; omega
    · rw [if_neg (fun h' => h (hc.1 h'))]
      obtain ⟨g1, g2⟩ := hst.1 (by omega)
      rw [g1, g2]
      exact ⟨by rw [e1]; omega, by rw [e3]; omega, by rw [e3]; omega⟩

/-- quotients of wide numbers are the reference's -/
theorem over_ref {hi lo b : BitVec 64} (hb : b ≠ 0#64) : oH hi b = ovQh hi lo b 0 64 ∧ oL hi lo b = ovQh hi lo b 64 64 ∧ oR hi lo b = ovR hi lo b 128 := by
  obtain ⟨o1, o2, o3⟩ := over_nat (hi := hi) (lo := lo) hb
  have hb0 : 0 < b.toNat := by
    rcases Nat.eq_zero_or_pos b.toNat with h | h
    · exact absurd (BitVec.eq_of_toNat_eq (by simpa using h)) hb
    · exact h
  obtain ⟨a1, a2, _⟩ := tk_inv (part := hi) (r0 := 0#64) hb (by simpa using hb0) 64 (by omega)
  simp at a1 a2
  obtain ⟨c1, c2, _⟩ := tk_inv (part := lo) (r0 := (tk hi b (0#64, 0#64) 64).1) hb (by rw [a1]; exact Nat.mod_lt _ hb0) 64 (by omega)
  rw [a1] at c1 c2
  simp only [Nat.sub_self, Nat.pow_zero, Nat.div_one] at c1 c2
  have hd : hi.toNat * 2 ^ 64 + lo.toNat = (hi.toNat % b.toNat * 2 ^ 64 + lo.toNat) + b.toNat * (hi.toNat / b.toNat * 2 ^ 64) := by
    have := Nat.div_add_mod hi.toNat b.toNat
    rw [← Nat.mul_assoc]
    generalize b.toNat * (hi.toNat / b.toNat) = X at *
    omega
  rw [hd, Nat.add_mul_div_left _ _ hb0] at o2
  rw [hd, Nat.add_mul_mod_self_left] at o3
  unfold oH oL oR
  rw [if_neg hb, if_neg hb, if_neg hb]
  exact ⟨BitVec.eq_of_toNat_eq (by omega), BitVec.eq_of_toNat_eq (by omega), BitVec.eq_of_toNat_eq (by omega)⟩

end
end Go.Proofs.Ytppmkmkadidemaa
