/- Layer 1's law of what is kept: cases. -/
import Derived.Test.YtelhpddidicllaaL2
namespace Go.Proofs.Ytelhpddidicllaa
open Go.Am
set_option linter.unusedSimpArgs false
set_option linter.unusedVariables false
noncomputable section

def s_kE2 (args : List AV) : Option AV :=
  match args with
  | [.c (.u w), .c (.u n), .g [.i a, .i s]] => if inR a ∧ inR s ∧ (64 ≤ a ∧ 0 < s ∧ s < 100) then some (.c (.b true)) else none
  | _ => none
theorem s_kE2_eq {w n a s} : s_kE2 [.c (.u w), .c (.u n), .g [.i a, .i s]] = if inR a ∧ inR s ∧ (64 ≤ a ∧ 0 < s ∧ s < 100) then some (.c (.b true)) else none := rfl
set_option maxRecDepth 100000 in
set_option maxHeartbeats 2000000 in
theorem ok_kE2 : PuOk Try.prog 6 s_kE2 := by
  refine pu_ok (tab := [(8, .pu s_live1), (15, .pu s_put), (11, .pu s_ones), (13, .pu s_cut), (17, .pu s_low), (18, .pu s_sign), (23, .pu s_sra)]) hmix (TabOk.cons (e := .pu s_live1) ok_live1 (TabOk.cons (e := .pu s_put) ok_put (TabOk.cons (e := .pu s_ones) ok_ones (TabOk.cons (e := .pu s_cut) ok_cut (TabOk.cons (e := .pu s_low) ok_low (TabOk.cons (e := .pu s_sign) ok_sign (TabOk.cons (e := .pu s_sra) ok_sra TabOk.nil))))))) Try.func6 rfl Try.results6 Try.ntmps6 (by kernel_rfl) (by kernel_rfl) ?_
  intro args v h
  unfold s_kE2 at h
  split at h
  · rename_i w n a s
    split at h
    · rename_i hc
      simp only [Option.some.injEq] at h; subst h
      refine ⟨by simp only [List.length_cons, List.length_nil]; decide, rfl, rfl, ?_⟩
      obtain ⟨ia, is, hc⟩ := hc
      have k1 := kp_1 w n a s
      have k2 := kp_2 w n a s
      have k4 := kp_4 w s
      have t1 : (n % 63#64).toNat = n.toNat % 63 := by simp [BitVec.toNat_umod]
      obtain ⟨f, hf, hf2⟩ : ∃ f, n.toNat % 63 = f ∧ f < 63 := ⟨_, rfl, by omega⟩
      have t2 : f % 64 = f := Nat.mod_eq_of_lt (by omega)
      have t3 : min f 64 = f := Nat.min_eq_left (by omega)
      obtain ⟨B, hB⟩ : ∃ B : Int, (2 : Int) ^ f = B := ⟨_, rfl⟩
      have hB0 : 0 < B := by rw [← hB]; exact Int.pow_pos (by omega)
      have hB1 : B ≤ 4611686018427387904 := by
        rw [← hB]
        have : (2 ^ f : Nat) ≤ 2 ^ 62 := Nat.pow_le_pow_right (by omega) (by omega)
        have e : ((2 ^ f : Nat) : Int) = (2 : Int) ^ f := by simp
        rw [← e]; omega
      have hq := sra_int w f
      rw [hB] at hq
      have q1 : w.toInt / B * B ≤ w.toInt := Int.ediv_mul_le _ (by omega)
      have q2 : w.toInt < (w.toInt / B + 1) * B := Int.lt_ediv_add_one_mul_self _ hB0
      rw [Int.add_mul, Int.one_mul] at q2
      have w1 := BitVec.le_toInt w
      have w2 := BitVec.toInt_lt (x := w)
      have q3 : -9223372036854775808 ≤ w.toInt / B * B := by
        have e : B * 2 ^ (63 - f) = 9223372036854775808 := by
          rw [← hB, ← Int.pow_add]
          have : f + (63 - f) = 63 := by omega
          rw [this]; rfl
        have h1 : -(2 ^ (63 - f) : Int) ≤ w.toInt / B := by
          apply Int.le_ediv_of_mul_le hB0
          rw [Int.neg_mul, Int.mul_comm, e]; omega
        have h2 := Int.mul_le_mul_of_nonneg_right h1 (by omega : 0 ≤ B)
        rw [Int.neg_mul, Int.mul_comm (2 ^ (63 - f)), e] at h2
        exact h2
      generalize hQ : w.toInt / B = Q at *
      generalize hQB : Q * B = QB at *
      have s1 : w64 QB = QB := w64_of (by omega)
      have s2 : w64 (w.toInt - QB) = w.toInt - QB := w64_of (by omega)
      have s3 : w64 B = B := w64_of (by omega)
      have c1 : (QB ≤ w.toInt) = True := eq_true q1
      have c2 : (w.toInt - QB < B) = True := eq_true (by omega)
      have o1 : (1 : Int) * B = B := Int.one_mul _
      have g1 : 0 ≤ a := by omega
      have g2 : ¬ a < 64 := by omega
      have k5 := kp_5 w s (by omega)
      have i2 : inR (s + 1) := ⟨by omega, by omega⟩
      have i2b : w64 (s + 1) = s + 1 := w64_of (by omega)
      have g3 : 0 < s := by omega
      have g5 : s < 100 := by omega
      clear hc q1 q2 q3 w1 w2 hB0 hB1 hf2
      simp (config := { maxSteps := 10000000 }) only [frA, arun_nil, arun_blk, arun_back, arun_ops_nil, arun_skip, arun_rgn, arun_rgd, arun_dr_nil, gd_eq, sd_go, sd_gd, nd_no, nn_no, nd_ld, nd_mk, nd_rd, nd_bar, nn_rd, nn_bar, nn_st, gdd_tt, gdd_ff, gdd_tf, gdd_ft, gdd_u, gdd_ntf, gdd_nft, gdd_nu, tc_load, tc_store, tc_alloc, tc_box, tc_buildSlice, tc_makeSlice, tc_call, tc_move, tc_assign, tc_pick, tc_build, tc_nilCheck, tc_binOp, tc_unOp, tc_convert, tc_makeFunc, tc_fieldAddr, tc_field, tc_indexAddr, tc_index, tc_slice, tc_extract, tc_len, tc_min, tc_max, tc_append, tl_eq, ts_eq, tcC, ok_nil, ok_cons, cl_ll, cl_lm, cl_lr, cl_ls, cl_lb, cl_sl, cl_ss, cl_sm, cl_sr, cl_sb, cl_ml, cl_ms, cl_mm, cl_mr, cl_mb, cl_rl, cl_rs, cl_rm, cl_rr, cl_rb, cl_bl, cl_bs, cl_bm, cl_br, cl_bb, arun_seq, arun_block, arun_ret, arun_exit, arun_cnd, cnd_tt, cnd_ff, popB, nxt_put, nxt_non, putA_some, putA_none, st_go, st_gd, gslot, dstA, List.getElem?_toArray, grd_tt, grd_ff, grd_tf, grd_ft, grd_u, grd_ntf, grd_nft, grd_nu, op_move, op_assign, op_box, op_load, op_nilCheck, op_unOp, op_convert, op_fieldAddr, op_field, op_extract, op_pick, op_build, op_buildSlice, op_store, op_binOp, op_makeSlice, op_indexAddr, op_index, op_makeFunc, op_slice, op_call, op_builtin, op_alloc, as_move, as_assign, as_pick, as_build, as_load, as_nilCheck, as_nilCheckf, as_bin, as_un, as_convert, as_makeFunc, as_fieldAddr, as_field, as_indexAddr, as_index, as_slice00, as_slice10, as_slice01, as_slice11, as_extract, as_len, as_min, as_max, as_append, as_call, as_alloc, as_box, as_store, as_buildSlice, bsA, List.size_toArray, List.toList_toArray, Nat.mul_one, Nat.one_mul, Nat.zero_mul, Nat.mul_zero, Nat.zero_add, Nat.add_zero, as_makeSlice, msA, appA, srcA, List.reduceReplicate, List.flatten_cons, List.flatten_nil, ev_tmp, ev_func, ev_i, ev_u, ev_b, ev_nils, ev_nilp, ev_nilf, get_same, get_ne, List.map_cons, List.map_nil, List.map_toArray, ab_u_add, ab_u_sub, ab_u_mul, ab_u_quo, ab_u_rem, ab_u_and, ab_u_or, ab_u_xor, ab_u_andNot, ab_u_eql, ab_u_neq, ab_u_lss, ab_u_leq, ab_u_gtr, ab_u_geq, ab_u_shl, ab_u_shr, ab_i_add, ab_i_sub, ab_i_mul, ab_i_quo, ab_i_rem, ab_i_eql, ab_i_neq, ab_i_lss, ab_i_leq, ab_i_gtr, ab_i_geq, ab_i_shlu, ab_i_shru, ab_b_eql, ab_b_neq, ab_s_eql, ab_s_neq, au_not, au_neg_i, au_neg_u, au_xor_u, ev_i8, cv_u_i8, cv_i_i8, cv_k_i8, ev_i16, cv_u_i16, cv_i_i16, cv_k_i16, ev_i32, cv_u_i32, cv_i_i32, cv_k_i32, ev_u8, cv_u_u8, cv_i_u8, cv_k_u8, ev_u16, cv_u_u16, cv_i_u16, cv_k_u16, ev_u32, cv_u_u32, cv_i_u32, cv_k_u32, cv_k_i64, cv_k_u64, ab_k_add, ab_k_sub, ab_k_mul, ab_k_and, ab_k_or, ab_k_eql, ab_k_neq, ab_k_lss, ab_k_leq, ab_k_gtr, ab_k_geq, ab_k_shlu, ab_k_shru, cv_ii, cv_ui, cv_iu, cv_uu, Option.map_some, Option.bind_some, BitVec.reduceOfInt, BitVec.reduceToNat, BitVec.reduceToInt, BitVec.reduceEq, BitVec.reduceLT, BitVec.reduceLE, BitVec.reduceAdd, BitVec.reduceSub, BitVec.reduceMul, BitVec.reduceUDiv, BitVec.reduceUMod, BitVec.reduceAnd, BitVec.reduceOr, BitVec.reduceXOr, BitVec.reduceNot, BitVec.reduceNeg, BitVec.reduceHShiftLeft, BitVec.reduceHShiftRight, Nat.reduceAdd, Nat.reduceMul, Nat.reduceSub, Nat.reduceBEq, Nat.reduceEqDiff, Nat.reduceLeDiff, Nat.reduceLT, Int.reduceLE, Int.reduceLT, Int.reduceAdd, Int.reduceSub, Int.reduceMul, Int.reduceNeg, Int.reduceToNat, Int.reduceEq, Int.toNat_natCast, Int.cast_ofNat_Int, and_self, and_true, true_and, if_true, if_false, ite_true, ite_false, ↓reduceIte, allocA, storeA, callA, Am.look, buildA, fillA, placeA, fldA, fldV, D.agg, D.is, rd, wr, ldA, indexAddrA, indexA, ixA, lenA, AV.cells, oc_own, oc_vec, oc_view, or_own, or_vec, or_view, oo_own, oo_vec, op_own, op_vec, Sc.one, caps, capV, hg_zero, hg_succ, hg_len, hg_len_add, set_len, set_len_add, List.set_set, wr, List.length_nil, List.length_cons, List.nil_append, List.append_nil, List.cons_append, List.append_assoc, List.length_append, List.getElem?_cons_zero, List.getElem?_cons_succ, List.getD_cons_zero, List.getD_cons_succ, List.zip_cons_cons, List.zip_nil_right, List.zip_nil_left, List.take_zero, List.take_nil, List.take_succ_cons, List.drop_succ_cons, List.drop_zero, List.drop_nil, List.all_cons, List.all_nil, Bool.and_true, Bool.true_and, List.set_cons_zero, List.set_cons_succ, decide_true, decide_false, decide_eq_true_eq, Bool.not_eq_true', Bool.not_true, Bool.not_false, Bool.false_eq_true, reduceCtorEq, Bool.not_eq_eq_eq_not, decide_eq_false_iff_not, imp_self, false_imp_iff, true_imp_iff, forall_const, Bool.true_eq_false, eq_self, Bool.true_beq, Bool.false_beq, Bool.and_false, Bool.false_and, csEq, scEq, eqU, resA, resL, res1, AV.flat, dT1, sT1, bT1, zT1, dT2, sT2, bT2, zT2, dT3, sT3, bT3, zT3, dT4, sT4, bT4, zT4, dT5, sT5, bT5, zT5, dT7, sT7, bT7, zT7, dT9, sT9, bT9, zT9, dT12, sT12, bT12, zT12, dT13, sT13, bT13, zT13, dT21, sT21, bT21, zT21, dT22, sT22, bT22, zT22, dT23, sT23, bT23, zT23, dT24, sT24, bT24, zT24, dT25, sT25, bT25, zT25, dT26, sT26, bT26, zT26, dT27, sT27, bT27, zT27, dT28, sT28, bT28, zT28, eqT28, neT28, dT29, sT29, bT29, zT29, dT30, sT30, bT30, zT30, dT31, sT31, bT31, zT31, dT32, sT32, bT32, zT32, dT33, sT33, bT33, zT33, dT34, sT34, bT34, zT34, dT35, sT35, bT35, zT35, dT36, sT36, bT36, zT36, dT37, sT37, bT37, zT37, dT38, sT38, bT38, zT38, dT40, sT40, bT40, zT40, dT41, sT41, bT41, zT41, dT42, sT42, bT42, zT42, dT44, sT44, bT44, zT44, dT45, sT45, bT45, zT45, dT46, sT46, bT46, zT46, dT47, sT47, bT47, zT47, dT53, sT53, bT53, zT53, dT56, sT56, bT56, zT56, dT57, sT57, bT57, zT57, dT60, sT60, bT60, zT60, s_live1_eq, s_put_eq, s_ones_eq, s_cut_eq, s_low_eq, s_sign_eq, s_sra_eq, *]
    · simp at h
  · simp at h
def s_kE3 (args : List AV) : Option AV :=
  match args with
  | [.c (.u w), .c (.u n), .g [.i a, .i s]] => if inR a ∧ inR s ∧ (64 ≤ a ∧ 100 ≤ s) then some (.c (.b true)) else none
  | _ => none
theorem s_kE3_eq {w n a s} : s_kE3 [.c (.u w), .c (.u n), .g [.i a, .i s]] = if inR a ∧ inR s ∧ (64 ≤ a ∧ 100 ≤ s) then some (.c (.b true)) else none := rfl
set_option maxRecDepth 100000 in
set_option maxHeartbeats 2000000 in
theorem ok_kE3 : PuOk Try.prog 6 s_kE3 := by
  refine pu_ok (tab := [(8, .pu s_live1), (15, .pu s_put), (11, .pu s_ones), (13, .pu s_cut), (17, .pu s_low), (18, .pu s_sign), (23, .pu s_sra)]) hmix (TabOk.cons (e := .pu s_live1) ok_live1 (TabOk.cons (e := .pu s_put) ok_put (TabOk.cons (e := .pu s_ones) ok_ones (TabOk.cons (e := .pu s_cut) ok_cut (TabOk.cons (e := .pu s_low) ok_low (TabOk.cons (e := .pu s_sign) ok_sign (TabOk.cons (e := .pu s_sra) ok_sra TabOk.nil))))))) Try.func6 rfl Try.results6 Try.ntmps6 (by kernel_rfl) (by kernel_rfl) ?_
  intro args v h
  unfold s_kE3 at h
  split at h
  · rename_i w n a s
    split at h
    · rename_i hc
      simp only [Option.some.injEq] at h; subst h
      refine ⟨by simp only [List.length_cons, List.length_nil]; decide, rfl, rfl, ?_⟩
      obtain ⟨ia, is, hc⟩ := hc
      have k1 := kp_1 w n a s
      have k2 := kp_2 w n a s
      have k4 := kp_4 w s
      have t1 : (n % 63#64).toNat = n.toNat % 63 := by simp [BitVec.toNat_umod]
      obtain ⟨f, hf, hf2⟩ : ∃ f, n.toNat % 63 = f ∧ f < 63 := ⟨_, rfl, by omega⟩
      have t2 : f % 64 = f := Nat.mod_eq_of_lt (by omega)
      have t3 : min f 64 = f := Nat.min_eq_left (by omega)
      obtain ⟨B, hB⟩ : ∃ B : Int, (2 : Int) ^ f = B := ⟨_, rfl⟩
      have hB0 : 0 < B := by rw [← hB]; exact Int.pow_pos (by omega)
      have hB1 : B ≤ 4611686018427387904 := by
        rw [← hB]
        have : (2 ^ f : Nat) ≤ 2 ^ 62 := Nat.pow_le_pow_right (by omega) (by omega)
        have e : ((2 ^ f : Nat) : Int) = (2 : Int) ^ f := by simp
        rw [← e]; omega
      have hq := sra_int w f
      rw [hB] at hq
      have q1 : w.toInt / B * B ≤ w.toInt := Int.ediv_mul_le _ (by omega)
      have q2 : w.toInt < (w.toInt / B + 1) * B := Int.lt_ediv_add_one_mul_self _ hB0
      rw [Int.add_mul, Int.one_mul] at q2
      have w1 := BitVec.le_toInt w
      have w2 := BitVec.toInt_lt (x := w)
      have q3 : -9223372036854775808 ≤ w.toInt / B * B := by
        have e : B * 2 ^ (63 - f) = 9223372036854775808 := by
          rw [← hB, ← Int.pow_add]
          have : f + (63 - f) = 63 := by omega
          rw [this]; rfl
        have h1 : -(2 ^ (63 - f) : Int) ≤ w.toInt / B := by
          apply Int.le_ediv_of_mul_le hB0
          rw [Int.neg_mul, Int.mul_comm, e]; omega
        have h2 := Int.mul_le_mul_of_nonneg_right h1 (by omega : 0 ≤ B)
        rw [Int.neg_mul, Int.mul_comm (2 ^ (63 - f)), e] at h2
        exact h2
      generalize hQ : w.toInt / B = Q at *
      generalize hQB : Q * B = QB at *
      have s1 : w64 QB = QB := w64_of (by omega)
      have s2 : w64 (w.toInt - QB) = w.toInt - QB := w64_of (by omega)
      have s3 : w64 B = B := w64_of (by omega)
      have c1 : (QB ≤ w.toInt) = True := eq_true q1
      have c2 : (w.toInt - QB < B) = True := eq_true (by omega)
      have o1 : (1 : Int) * B = B := Int.one_mul _
      have g1 : 0 ≤ a := by omega
      have g2 : ¬ a < 64 := by omega
      have g3 : 0 < s := by omega
      have g5 : ¬ s < 100 := by omega
      clear hc q1 q2 q3 w1 w2 hB0 hB1 hf2
      simp (config := { maxSteps := 10000000 }) only [frA, arun_nil, arun_blk, arun_back, arun_ops_nil, arun_skip, arun_rgn, arun_rgd, arun_dr_nil, gd_eq, sd_go, sd_gd, nd_no, nn_no, nd_ld, nd_mk, nd_rd, nd_bar, nn_rd, nn_bar, nn_st, gdd_tt, gdd_ff, gdd_tf, gdd_ft, gdd_u, gdd_ntf, gdd_nft, gdd_nu, tc_load, tc_store, tc_alloc, tc_box, tc_buildSlice, tc_makeSlice, tc_call, tc_move, tc_assign, tc_pick, tc_build, tc_nilCheck, tc_binOp, tc_unOp, tc_convert, tc_makeFunc, tc_fieldAddr, tc_field, tc_indexAddr, tc_index, tc_slice, tc_extract, tc_len, tc_min, tc_max, tc_append, tl_eq, ts_eq, tcC, ok_nil, ok_cons, cl_ll, cl_lm, cl_lr, cl_ls, cl_lb, cl_sl, cl_ss, cl_sm, cl_sr, cl_sb, cl_ml, cl_ms, cl_mm, cl_mr, cl_mb, cl_rl, cl_rs, cl_rm, cl_rr, cl_rb, cl_bl, cl_bs, cl_bm, cl_br, cl_bb, arun_seq, arun_block, arun_ret, arun_exit, arun_cnd, cnd_tt, cnd_ff, popB, nxt_put, nxt_non, putA_some, putA_none, st_go, st_gd, gslot, dstA, List.getElem?_toArray, grd_tt, grd_ff, grd_tf, grd_ft, grd_u, grd_ntf, grd_nft, grd_nu, op_move, op_assign, op_box, op_load, op_nilCheck, op_unOp, op_convert, op_fieldAddr, op_field, op_extract, op_pick, op_build, op_buildSlice, op_store, op_binOp, op_makeSlice, op_indexAddr, op_index, op_makeFunc, op_slice, op_call, op_builtin, op_alloc, as_move, as_assign, as_pick, as_build, as_load, as_nilCheck, as_nilCheckf, as_bin, as_un, as_convert, as_makeFunc, as_fieldAddr, as_field, as_indexAddr, as_index, as_slice00, as_slice10, as_slice01, as_slice11, as_extract, as_len, as_min, as_max, as_append, as_call, as_alloc, as_box, as_store, as_buildSlice, bsA, List.size_toArray, List.toList_toArray, Nat.mul_one, Nat.one_mul, Nat.zero_mul, Nat.mul_zero, Nat.zero_add, Nat.add_zero, as_makeSlice, msA, appA, srcA, List.reduceReplicate, List.flatten_cons, List.flatten_nil, ev_tmp, ev_func, ev_i, ev_u, ev_b, ev_nils, ev_nilp, ev_nilf, get_same, get_ne, List.map_cons, List.map_nil, List.map_toArray, ab_u_add, ab_u_sub, ab_u_mul, ab_u_quo, ab_u_rem, ab_u_and, ab_u_or, ab_u_xor, ab_u_andNot, ab_u_eql, ab_u_neq, ab_u_lss, ab_u_leq, ab_u_gtr, ab_u_geq, ab_u_shl, ab_u_shr, ab_i_add, ab_i_sub, ab_i_mul, ab_i_quo, ab_i_rem, ab_i_eql, ab_i_neq, ab_i_lss, ab_i_leq, ab_i_gtr, ab_i_geq, ab_i_shlu, ab_i_shru, ab_b_eql, ab_b_neq, ab_s_eql, ab_s_neq, au_not, au_neg_i, au_neg_u, au_xor_u, ev_i8, cv_u_i8, cv_i_i8, cv_k_i8, ev_i16, cv_u_i16, cv_i_i16, cv_k_i16, ev_i32, cv_u_i32, cv_i_i32, cv_k_i32, ev_u8, cv_u_u8, cv_i_u8, cv_k_u8, ev_u16, cv_u_u16, cv_i_u16, cv_k_u16, ev_u32, cv_u_u32, cv_i_u32, cv_k_u32, cv_k_i64, cv_k_u64, ab_k_add, ab_k_sub, ab_k_mul, ab_k_and, ab_k_or, ab_k_eql, ab_k_neq, ab_k_lss, ab_k_leq, ab_k_gtr, ab_k_geq, ab_k_shlu, ab_k_shru, cv_ii, cv_ui, cv_iu, cv_uu, Option.map_some, Option.bind_some, BitVec.reduceOfInt, BitVec.reduceToNat, BitVec.reduceToInt, BitVec.reduceEq, BitVec.reduceLT, BitVec.reduceLE, BitVec.reduceAdd, BitVec.reduceSub, BitVec.reduceMul, BitVec.reduceUDiv, BitVec.reduceUMod, BitVec.reduceAnd, BitVec.reduceOr, BitVec.reduceXOr, BitVec.reduceNot, BitVec.reduceNeg, BitVec.reduceHShiftLeft, BitVec.reduceHShiftRight, Nat.reduceAdd, Nat.reduceMul, Nat.reduceSub, Nat.reduceBEq, Nat.reduceEqDiff, Nat.reduceLeDiff, Nat.reduceLT, Int.reduceLE, Int.reduceLT, Int.reduceAdd, Int.reduceSub, Int.reduceMul, Int.reduceNeg, Int.reduceToNat, Int.reduceEq, Int.toNat_natCast, Int.cast_ofNat_Int, and_self, and_true, true_and, if_true, if_false, ite_true, ite_false, ↓reduceIte, allocA, storeA, callA, Am.look, buildA, fillA, placeA, fldA, fldV, D.agg, D.is, rd, wr, ldA, indexAddrA, indexA, ixA, lenA, AV.cells, oc_own, oc_vec, oc_view, or_own, or_vec, or_view, oo_own, oo_vec, op_own, op_vec, Sc.one, caps, capV, hg_zero, hg_succ, hg_len, hg_len_add, set_len, set_len_add, List.set_set, wr, List.length_nil, List.length_cons, List.nil_append, List.append_nil, List.cons_append, List.append_assoc, List.length_append, List.getElem?_cons_zero, List.getElem?_cons_succ, List.getD_cons_zero, List.getD_cons_succ, List.zip_cons_cons, List.zip_nil_right, List.zip_nil_left, List.take_zero, List.take_nil, List.take_succ_cons, List.drop_succ_cons, List.drop_zero, List.drop_nil, List.all_cons, List.all_nil, Bool.and_true, Bool.true_and, List.set_cons_zero, List.set_cons_succ, decide_true, decide_false, decide_eq_true_eq, Bool.not_eq_true', Bool.not_true, Bool.not_false, Bool.false_eq_true, reduceCtorEq, Bool.not_eq_eq_eq_not, decide_eq_false_iff_not, imp_self, false_imp_iff, true_imp_iff, forall_const, Bool.true_eq_false, eq_self, Bool.true_beq, Bool.false_beq, Bool.and_false, Bool.false_and, csEq, scEq, eqU, resA, resL, res1, AV.flat, dT1, sT1, bT1, zT1, dT2, sT2, bT2, zT2, dT3, sT3, bT3, zT3, dT4, sT4, bT4, zT4, dT5, sT5, bT5, zT5, dT7, sT7, bT7, zT7, dT9, sT9, bT9, zT9, dT12, sT12, bT12, zT12, dT13, sT13, bT13, zT13, dT21, sT21, bT21, zT21, dT22, sT22, bT22, zT22, dT23, sT23, bT23, zT23, dT24, sT24, bT24, zT24, dT25, sT25, bT25, zT25, dT26, sT26, bT26, zT26, dT27, sT27, bT27, zT27, dT28, sT28, bT28, zT28, eqT28, neT28, dT29, sT29, bT29, zT29, dT30, sT30, bT30, zT30, dT31, sT31, bT31, zT31, dT32, sT32, bT32, zT32, dT33, sT33, bT33, zT33, dT34, sT34, bT34, zT34, dT35, sT35, bT35, zT35, dT36, sT36, bT36, zT36, dT37, sT37, bT37, zT37, dT38, sT38, bT38, zT38, dT40, sT40, bT40, zT40, dT41, sT41, bT41, zT41, dT42, sT42, bT42, zT42, dT44, sT44, bT44, zT44, dT45, sT45, bT45, zT45, dT46, sT46, bT46, zT46, dT47, sT47, bT47, zT47, dT53, sT53, bT53, zT53, dT56, sT56, bT56, zT56, dT57, sT57, bT57, zT57, dT60, sT60, bT60, zT60, s_live1_eq, s_put_eq, s_ones_eq, s_cut_eq, s_low_eq, s_sign_eq, s_sra_eq, *]
    · simp at h
  · simp at h
def s_kF1 (args : List AV) : Option AV :=
  match args with
  | [.c (.u w), .c (.u n), .g [.i a, .i s]] => if inR a ∧ inR s ∧ (a < 0 ∧ s ≤ 0) then some (.c (.b true)) else none
  | _ => none
theorem s_kF1_eq {w n a s} : s_kF1 [.c (.u w), .c (.u n), .g [.i a, .i s]] = if inR a ∧ inR s ∧ (a < 0 ∧ s ≤ 0) then some (.c (.b true)) else none := rfl
set_option maxRecDepth 100000 in
set_option maxHeartbeats 2000000 in
theorem ok_kF1 : PuOk Try.prog 6 s_kF1 := by
  refine pu_ok (tab := [(8, .pu s_live1), (15, .pu s_put), (11, .pu s_ones), (13, .pu s_cut), (17, .pu s_low), (18, .pu s_sign), (23, .pu s_sra)]) hmix (TabOk.cons (e := .pu s_live1) ok_live1 (TabOk.cons (e := .pu s_put) ok_put (TabOk.cons (e := .pu s_ones) ok_ones (TabOk.cons (e := .pu s_cut) ok_cut (TabOk.cons (e := .pu s_low) ok_low (TabOk.cons (e := .pu s_sign) ok_sign (TabOk.cons (e := .pu s_sra) ok_sra TabOk.nil))))))) Try.func6 rfl Try.results6 Try.ntmps6 (by kernel_rfl) (by kernel_rfl) ?_
  intro args v h
  unfold s_kF1 at h
  split at h
  · rename_i w n a s
    split at h
    · rename_i hc
      simp only [Option.some.injEq] at h; subst h
      refine ⟨by simp only [List.length_cons, List.length_nil]; decide, rfl, rfl, ?_⟩
      obtain ⟨ia, is, hc⟩ := hc
      have k1 := kp_1 w n a s
      have k2 := kp_2 w n a s
      have k4 := kp_4 w s
      have t1 : (n % 63#64).toNat = n.toNat % 63 := by simp [BitVec.toNat_umod]
      obtain ⟨f, hf, hf2⟩ : ∃ f, n.toNat % 63 = f ∧ f < 63 := ⟨_, rfl, by omega⟩
      have t2 : f % 64 = f := Nat.mod_eq_of_lt (by omega)
      have t3 : min f 64 = f := Nat.min_eq_left (by omega)
      obtain ⟨B, hB⟩ : ∃ B : Int, (2 : Int) ^ f = B := ⟨_, rfl⟩
      have hB0 : 0 < B := by rw [← hB]; exact Int.pow_pos (by omega)
      have hB1 : B ≤ 4611686018427387904 := by
        rw [← hB]
        have : (2 ^ f : Nat) ≤ 2 ^ 62 := Nat.pow_le_pow_right (by omega) (by omega)
        have e : ((2 ^ f : Nat) : Int) = (2 : Int) ^ f := by simp
        rw [← e]; omega
      have hq := sra_int w f
      rw [hB] at hq
      have q1 : w.toInt / B * B ≤ w.toInt := Int.ediv_mul_le _ (by omega)
      have q2 : w.toInt < (w.toInt / B + 1) * B := Int.lt_ediv_add_one_mul_self _ hB0
      rw [Int.add_mul, Int.one_mul] at q2
      have w1 := BitVec.le_toInt w
      have w2 := BitVec.toInt_lt (x := w)
      have q3 : -9223372036854775808 ≤ w.toInt / B * B := by
        have e : B * 2 ^ (63 - f) = 9223372036854775808 := by
          rw [← hB, ← Int.pow_add]
          have : f + (63 - f) = 63 := by omega
          rw [this]; rfl
        have h1 : -(2 ^ (63 - f) : Int) ≤ w.toInt / B := by
          apply Int.le_ediv_of_mul_le hB0
          rw [Int.neg_mul, Int.mul_comm, e]; omega
        have h2 := Int.mul_le_mul_of_nonneg_right h1 (by omega : 0 ≤ B)
        rw [Int.neg_mul, Int.mul_comm (2 ^ (63 - f)), e] at h2
        exact h2
      generalize hQ : w.toInt / B = Q at *
      generalize hQB : Q * B = QB at *
      have s1 : w64 QB = QB := w64_of (by omega)
      have s2 : w64 (w.toInt - QB) = w.toInt - QB := w64_of (by omega)
      have s3 : w64 B = B := w64_of (by omega)
      have c1 : (QB ≤ w.toInt) = True := eq_true q1
      have c2 : (w.toInt - QB < B) = True := eq_true (by omega)
      have o1 : (1 : Int) * B = B := Int.one_mul _
      have g1 : ¬ 0 ≤ a := by omega
      have g3 : ¬ 0 < s := by omega
      clear hc q1 q2 q3 w1 w2 hB0 hB1 hf2
      simp (config := { maxSteps := 10000000 }) only [frA, arun_nil, arun_blk, arun_back, arun_ops_nil, arun_skip, arun_rgn, arun_rgd, arun_dr_nil, gd_eq, sd_go, sd_gd, nd_no, nn_no, nd_ld, nd_mk, nd_rd, nd_bar, nn_rd, nn_bar, nn_st, gdd_tt, gdd_ff, gdd_tf, gdd_ft, gdd_u, gdd_ntf, gdd_nft, gdd_nu, tc_load, tc_store, tc_alloc, tc_box, tc_buildSlice, tc_makeSlice, tc_call, tc_move, tc_assign, tc_pick, tc_build, tc_nilCheck, tc_binOp, tc_unOp, tc_convert, tc_makeFunc, tc_fieldAddr, tc_field, tc_indexAddr, tc_index, tc_slice, tc_extract, tc_len, tc_min, tc_max, tc_append, tl_eq, ts_eq, tcC, ok_nil, ok_cons, cl_ll, cl_lm, cl_lr, cl_ls, cl_lb, cl_sl, cl_ss, cl_sm, cl_sr, cl_sb, cl_ml, cl_ms, cl_mm, cl_mr, cl_mb, cl_rl, cl_rs, cl_rm, cl_rr, cl_rb, cl_bl, cl_bs, cl_bm, cl_br, cl_bb, arun_seq, arun_block, arun_ret, arun_exit, arun_cnd, cnd_tt, cnd_ff, popB, nxt_put, nxt_non, putA_some, putA_none, st_go, st_gd, gslot, dstA, List.getElem?_toArray, grd_tt, grd_ff, grd_tf, grd_ft, grd_u, grd_ntf, grd_nft, grd_nu, op_move, op_assign, op_box, op_load, op_nilCheck, op_unOp, op_convert, op_fieldAddr, op_field, op_extract, op_pick, op_build, op_buildSlice, op_store, op_binOp, op_makeSlice, op_indexAddr, op_index, op_makeFunc, op_slice, op_call, op_builtin, op_alloc, as_move, as_assign, as_pick, as_build, as_load, as_nilCheck, as_nilCheckf, as_bin, as_un, as_convert, as_makeFunc, as_fieldAddr, as_field, as_indexAddr, as_index, as_slice00, as_slice10, as_slice01, as_slice11, as_extract, as_len, as_min, as_max, as_append, as_call, as_alloc, as_box, as_store, as_buildSlice, bsA, List.size_toArray, List.toList_toArray, Nat.mul_one, Nat.one_mul, Nat.zero_mul, Nat.mul_zero, Nat.zero_add, Nat.add_zero, as_makeSlice, msA, appA, srcA, List.reduceReplicate, List.flatten_cons, List.flatten_nil, ev_tmp, ev_func, ev_i, ev_u, ev_b, ev_nils, ev_nilp, ev_nilf, get_same, get_ne, List.map_cons, List.map_nil, List.map_toArray, ab_u_add, ab_u_sub, ab_u_mul, ab_u_quo, ab_u_rem, ab_u_and, ab_u_or, ab_u_xor, ab_u_andNot, ab_u_eql, ab_u_neq, ab_u_lss, ab_u_leq, ab_u_gtr, ab_u_geq, ab_u_shl, ab_u_shr, ab_i_add, ab_i_sub, ab_i_mul, ab_i_quo, ab_i_rem, ab_i_eql, ab_i_neq, ab_i_lss, ab_i_leq, ab_i_gtr, ab_i_geq, ab_i_shlu, ab_i_shru, ab_b_eql, ab_b_neq, ab_s_eql, ab_s_neq, au_not, au_neg_i, au_neg_u, au_xor_u, ev_i8, cv_u_i8, cv_i_i8, cv_k_i8, ev_i16, cv_u_i16, cv_i_i16, cv_k_i16, ev_i32, cv_u_i32, cv_i_i32, cv_k_i32, ev_u8, cv_u_u8, cv_i_u8, cv_k_u8, ev_u16, cv_u_u16, cv_i_u16, cv_k_u16, ev_u32, cv_u_u32, cv_i_u32, cv_k_u32, cv_k_i64, cv_k_u64, ab_k_add, ab_k_sub, ab_k_mul, ab_k_and, ab_k_or, ab_k_eql, ab_k_neq, ab_k_lss, ab_k_leq, ab_k_gtr, ab_k_geq, ab_k_shlu, ab_k_shru, cv_ii, cv_ui, cv_iu, cv_uu, Option.map_some, Option.bind_some, BitVec.reduceOfInt, BitVec.reduceToNat, BitVec.reduceToInt, BitVec.reduceEq, BitVec.reduceLT, BitVec.reduceLE, BitVec.reduceAdd, BitVec.reduceSub, BitVec.reduceMul, BitVec.reduceUDiv, BitVec.reduceUMod, BitVec.reduceAnd, BitVec.reduceOr, BitVec.reduceXOr, BitVec.reduceNot, BitVec.reduceNeg, BitVec.reduceHShiftLeft, BitVec.reduceHShiftRight, Nat.reduceAdd, Nat.reduceMul, Nat.reduceSub, Nat.reduceBEq, Nat.reduceEqDiff, Nat.reduceLeDiff, Nat.reduceLT, Int.reduceLE, Int.reduceLT, Int.reduceAdd, Int.reduceSub, Int.reduceMul, Int.reduceNeg, Int.reduceToNat, Int.reduceEq, Int.toNat_natCast, Int.cast_ofNat_Int, and_self, and_true, true_and, if_true, if_false, ite_true, ite_false, ↓reduceIte, allocA, storeA, callA, Am.look, buildA, fillA, placeA, fldA, fldV, D.agg, D.is, rd, wr, ldA, indexAddrA, indexA, ixA, lenA, AV.cells, oc_own, oc_vec, oc_view, or_own, or_vec, or_view, oo_own, oo_vec, op_own, op_vec, Sc.one, caps, capV, hg_zero, hg_succ, hg_len, hg_len_add, set_len, set_len_add, List.set_set, wr, List.length_nil, List.length_cons, List.nil_append, List.append_nil, List.cons_append, List.append_assoc, List.length_append, List.getElem?_cons_zero, List.getElem?_cons_succ, List.getD_cons_zero, List.getD_cons_succ, List.zip_cons_cons, List.zip_nil_right, List.zip_nil_left, List.take_zero, List.take_nil, List.take_succ_cons, List.drop_succ_cons, List.drop_zero, List.drop_nil, List.all_cons, List.all_nil, Bool.and_true, Bool.true_and, List.set_cons_zero, List.set_cons_succ, decide_true, decide_false, decide_eq_true_eq, Bool.not_eq_true', Bool.not_true, Bool.not_false, Bool.false_eq_true, reduceCtorEq, Bool.not_eq_eq_eq_not, decide_eq_false_iff_not, imp_self, false_imp_iff, true_imp_iff, forall_const, Bool.true_eq_false, eq_self, Bool.true_beq, Bool.false_beq, Bool.and_false, Bool.false_and, csEq, scEq, eqU, resA, resL, res1, AV.flat, dT1, sT1, bT1, zT1, dT2, sT2, bT2, zT2, dT3, sT3, bT3, zT3, dT4, sT4, bT4, zT4, dT5, sT5, bT5, zT5, dT7, sT7, bT7, zT7, dT9, sT9, bT9, zT9, dT12, sT12, bT12, zT12, dT13, sT13, bT13, zT13, dT21, sT21, bT21, zT21, dT22, sT22, bT22, zT22, dT23, sT23, bT23, zT23, dT24, sT24, bT24, zT24, dT25, sT25, bT25, zT25, dT26, sT26, bT26, zT26, dT27, sT27, bT27, zT27, dT28, sT28, bT28, zT28, eqT28, neT28, dT29, sT29, bT29, zT29, dT30, sT30, bT30, zT30, dT31, sT31, bT31, zT31, dT32, sT32, bT32, zT32, dT33, sT33, bT33, zT33, dT34, sT34, bT34, zT34, dT35, sT35, bT35, zT35, dT36, sT36, bT36, zT36, dT37, sT37, bT37, zT37, dT38, sT38, bT38, zT38, dT40, sT40, bT40, zT40, dT41, sT41, bT41, zT41, dT42, sT42, bT42, zT42, dT44, sT44, bT44, zT44, dT45, sT45, bT45, zT45, dT46, sT46, bT46, zT46, dT47, sT47, bT47, zT47, dT53, sT53, bT53, zT53, dT56, sT56, bT56, zT56, dT57, sT57, bT57, zT57, dT60, sT60, bT60, zT60, s_live1_eq, s_put_eq, s_ones_eq, s_cut_eq, s_low_eq, s_sign_eq, s_sra_eq, *]
    · simp at h
  · simp at h

end
end Go.Proofs.Ytelhpddidicllaa
