/- Layer 25's law of what is marked. -/
import Derived.Test.YtkibkplfcnoahaaP2
namespace Go.Proofs.Ytkibkplfcnoahaa
open Go.Am
set_option linter.unusedSimpArgs false
set_option linter.unusedVariables false
noncomputable section

theorem mark_get (p : BitVec 64) (a : Int) {i : Nat} (h6 : i ≠ 6) (h7 : i ≠ 7) : (markU p a).getLsbD i = p.getLsbD i := by
  have e6 : (64#64).getLsbD i = false := by
    have : 64#64 = 1#64 <<< 6 := by decide
    rw [this, BitVec.getLsbD_shiftLeft]
    by_cases h : i < 6
    · simp [h]
    · have h' : i - 6 ≠ 0 := by omega
      simp [h']
  have e7 : (128#64).getLsbD i = false := by
    have : 128#64 = 1#64 <<< 7 := by decide
    rw [this, BitVec.getLsbD_shiftLeft]
    by_cases h : i < 7
    · simp [h]
    · have h' : i - 7 ≠ 0 := by omega
      simp [h']
  unfold markU
  split <;> simp [BitVec.getLsbD_or, e6, e7]
theorem mark_bit (p : BitVec 64) (a : Int) {i : Nat} (h6 : i ≠ 6) (h7 : i ≠ 7) : bitB (markU p a) i = bitB p i := by rw [bitB_n, bitB_n, mark_get p a h6 h7]
theorem mark_twice (p : BitVec 64) (a : Int) : markU (markU p a) a = markU p a := by
  apply BitVec.eq_of_getLsbD_eq
  intro i hi
  unfold markU
  split <;> simp only [BitVec.getLsbD_or] <;> cases p.getLsbD i <;> cases (64#64).getLsbD i <;> simp
theorem mark_lets (p : BitVec 64) (a r : Int) (su mx : Bool) : letsB (markU p a) a r su mx = letsB p a r su mx := by
  have b1 : bitB (markU p a) 1 = bitB p 1 := mark_bit p a (i := 1) (by omega) (by omega)
  have b2 : bitB (markU p a) 2 = bitB p 2 := mark_bit p a (i := 2) (by omega) (by omega)
  have b3 : bitB (markU p a) 3 = bitB p 3 := mark_bit p a (i := 3) (by omega) (by omega)
  have b4 : bitB (markU p a) 4 = bitB p 4 := mark_bit p a (i := 4) (by omega) (by omega)
  have hp : passB (markU p a) a mx = passB p a mx := by simp only [passB, b1, b2, b3]
  unfold letsB
  rw [hp, b4]
theorem mark_ppn (p : BitVec 64) (a : Int) : cutU (markU p a) 10 44 = cutU p 10 44 := ofG_congr fun i hi => by
  have e : (10 : Int) + (i : Int) = ((10 + i : Nat) : Int) := by omega
  rw [e, mark_bit p a (by omega) (by omega)]
theorem mark_kind (p : BitVec 64) (a l : Int) (h : kindU p l = 2) : kindU (markU p a) l = 2 := by
  have b0 : bitB (markU p a) 0 = bitB p 0 := mark_bit p a (i := 0) (by omega) (by omega)
  have b1 : bitB (markU p a) 1 = bitB p 1 := mark_bit p a (i := 1) (by omega) (by omega)
  have b2 : bitB (markU p a) 2 = bitB p 2 := mark_bit p a (i := 2) (by omega) (by omega)
  have b3 : bitB (markU p a) 3 = bitB p 3 := mark_bit p a (i := 3) (by omega) (by omega)
  have e54 : markU p a >>> 54 = p >>> 54 := by
    apply BitVec.eq_of_getLsbD_eq
    intro i hi
    rw [BitVec.getLsbD_ushiftRight, BitVec.getLsbD_ushiftRight, mark_get p a (by omega) (by omega)]
  unfold kindU at h ⊢
  rw [b0, b1, b2, b3, e54, mark_ppn]
  by_cases c1 : l < 0
  · rw [if_pos c1] at h; simp at h
  rw [if_neg c1] at h ⊢
  by_cases c2 : 2 < l
  · rw [if_pos c2] at h; simp at h
  rw [if_neg c2] at h ⊢
  by_cases c3 : bitB p 0 = false
  · rw [if_pos c3] at h; simp at h
  rw [if_neg c3] at h ⊢
  by_cases c4 : bitB p 2 = true ∧ bitB p 1 = false
  · rw [if_pos c4] at h; simp at h
  rw [if_neg c4] at h ⊢
  by_cases c5 : p >>> 54 ≠ 0#64
  · rw [if_pos c5] at h; simp at h
  rw [if_neg c5] at h ⊢
  by_cases c6 : bitB p 1 = true ∨ bitB p 3 = true
  · rw [if_pos c6] at h ⊢; exact h
  · rw [if_neg c6] at h; split at h
    · simp at h
    · split at h <;> simp at h
theorem kind_low (p : BitVec 64) (l : Int) (h : kindU p l = 2) : lowU (cutU p 10 44) (9 * l) = 0#64 := by
  unfold kindU at h
  by_cases c1 : l < 0
  · rw [if_pos c1] at h; simp at h
  rw [if_neg c1] at h
  by_cases c2 : 2 < l
  · rw [if_pos c2] at h; simp at h
  rw [if_neg c2] at h
  by_cases c3 : bitB p 0 = false
  · rw [if_pos c3] at h; simp at h
  rw [if_neg c3] at h
  by_cases c4 : bitB p 2 = true ∧ bitB p 1 = false
  · rw [if_pos c4] at h; simp at h
  rw [if_neg c4] at h
  by_cases c5 : p >>> 54 ≠ 0#64
  · rw [if_pos c5] at h; simp at h
  rw [if_neg c5] at h
  by_cases c6 : bitB p 1 = true ∨ bitB p 3 = true
  · rw [if_pos c6] at h
    by_cases c7 : lowU (cutU p 10 44) (9 * l) = 0#64
    · exact c7
    · rw [if_pos c7] at h; simp at h
  · rw [if_neg c6] at h; split at h
    · simp at h
    · split at h <;> simp at h
theorem mask_get (n : Nat) (hn : n < 3) {i : Nat} (hi : i < 64) : ((1#64 <<< (12 + 9 * n)) - 1#64).getLsbD i = decide (i < 12 + 9 * n) := by
  have e3 : (1#64 <<< (12 + 9 * n)) - 1#64 = BitVec.ofNat 64 (2 ^ (12 + 9 * n) - 1) := by
    rcases (by omega : n = 0 ∨ n = 1 ∨ n = 2) with rfl | rfl | rfl <;> decide
  rw [e3, BitVec.getLsbD_ofNat, Nat.testBit_two_pow_sub_one]; simp [hi]
theorem frame_get (p v : BitVec 64) (n : Nat) (hn : n < 3) {i : Nat} (hi : i < 64) : (frameU p n v).getLsbD i = if i < 12 + 9 * n then v.getLsbD i else (cutU p 10 44).getLsbD (i - 12) := by
  unfold frameU
  rw [if_neg (by omega), if_neg (by omega), putU, ofG_get hi]
  by_cases h : i < 12 + 9 * n
  · have hp : inP 0 (12 + 9 * (n : Int)) i = true := decide_eq_true (by omega)
    rw [hp, if_pos rfl, if_pos h, Int.sub_zero, bitB_n]
  · have hp : inP 0 (12 + 9 * (n : Int)) i = false := decide_eq_false (by omega)
    have h2 : ¬ i < 12 := by omega
    rw [hp, if_neg (by simp), if_neg h, BitVec.getLsbD_shiftLeft]; simp [h2, hi]
theorem frame_up (p v : BitVec 64) (n : Nat) (hn : n < 3) (hl : lowU (cutU p 10 44) (9 * (n : Int)) = 0#64) : frameU p n v &&& ~~~((1#64 <<< (12 + 9 * n)) - 1#64) = cutU p 10 44 * 4096#64 := by
  rw [mul4096]
  apply BitVec.eq_of_getLsbD_eq
  intro i hi
  rw [BitVec.getLsbD_and, BitVec.getLsbD_not, mask_get n hn hi, frame_get p v n hn hi, BitVec.getLsbD_shiftLeft]
  by_cases h1 : i < 12
  · have h2 : i < 12 + 9 * n := by omega
    simp [h1, h2]
  · by_cases h2 : i < 12 + 9 * n
    · have e := congrArg (fun x => x.getLsbD (i - 12)) hl
      have c : (lowU (cutU p 10 44) (9 * (n : Int))).getLsbD (i - 12) = (decide (((i - 12 : Nat) : Int) < 9 * (n : Int)) && (cutU p 10 44).getLsbD (i - 12)) := ofG_get (by omega)
      simp only [c] at e
      rw [decide_eq_true (by omega), Bool.true_and] at e
      simp [h1, h2, e]
    · simp [h1, h2, hi]
theorem frame_low (p v : BitVec 64) (n : Nat) (hn : n < 3) : frameU p n v &&& ((1#64 <<< (12 + 9 * n)) - 1#64) = v &&& ((1#64 <<< (12 + 9 * n)) - 1#64) := by
  apply BitVec.eq_of_getLsbD_eq
  intro i hi
  rw [BitVec.getLsbD_and, BitVec.getLsbD_and, mask_get n hn hi, frame_get p v n hn hi]
  by_cases h2 : i < 12 + 9 * n
  · simp [h2]
  · simp [h2]
def s_pteMarks (args : List AV) : Option AV :=
  match args with
  | [.c (.u p), .g [.i a, .i r, .b su, .b mx], .g [.u x0, .u x1, .u x2]] => some (.c (.b true))
  | _ => none
theorem s_pteMarks_eq {p a r su mx x0 x1 x2} : s_pteMarks [.c (.u p), .g [.i a, .i r, .b su, .b mx], .g [.u x0, .u x1, .u x2]] = some (.c (.b true)) := rfl
set_option maxRecDepth 100000 in
set_option maxHeartbeats 2000000 in
theorem ok_pteMarks : PuOk Try.prog 5 s_pteMarks := by
  refine pu_ok (tab := [(15, .pu s_pmarked), (17, .pu s_plets), (7, .pu s_pkind), (19, .pu s_pframe), (9, .pu s_ppn), (14, .pu s_live25)]) hmix (TabOk.cons (e := .pu s_pmarked) ok_pmarked (TabOk.cons (e := .pu s_plets) ok_plets (TabOk.cons (e := .pu s_pkind) ok_pkind (TabOk.cons (e := .pu s_pframe) ok_pframe (TabOk.cons (e := .pu s_ppn) ok_ppn (TabOk.cons (e := .pu s_live25) ok_live25 TabOk.nil)))))) Try.func5 rfl Try.results5 Try.ntmps5 (by kernel_rfl) (by kernel_rfl) ?_
  intro args v h
  unfold s_pteMarks at h
  split at h
  · rename_i p a r su mx x0 x1 x2
    simp only [Option.some.injEq] at h; subst h
    refine ⟨by simp only [List.length_cons, List.length_nil]; decide, rfl, rfl, ?_⟩
    obtain ⟨n, hn, hn3⟩ : ∃ n : Nat, x0.toNat % 3 = n ∧ n < 3 := ⟨_, rfl, by omega⟩
    have t1 : (x0 % 3#64).toInt = (n : Int) := by
      rw [BitVec.toInt_eq_toNat_cond, BitVec.toNat_umod]
      have e : (3#64).toNat = 3 := rfl
      rw [e, hn, if_pos (by omega)]
    have e1 : w64 (9 * (n : Int)) = ((9 * n : Nat) : Int) := by rw [w64_of (by omega)]; omega
    have e2 : w64 (12 + ((9 * n : Nat) : Int)) = ((12 + 9 * n : Nat) : Int) := by rw [w64_of (by omega)]; omega
    have e3 := ofI_nat (n := 12 + 9 * n) (by omega)
    have m1 := mark_twice p a
    have m2 := mark_lets p a r su mx
    by_cases hk : kindU p n = 2
    · have k2 := mark_kind p a n hk
      have hl := kind_low p n hk
      have f1 := frame_up p x1 n hn3 hl
      have f2 := frame_low p x1 n hn3
      have f3 := frame_up (markU p a) x2 n hn3 (by rw [mark_ppn]; exact hl)
      rw [mark_ppn] at f3
      simp (config := { maxSteps := 10000000 }) only [frA, arun_nil, arun_blk, arun_back, arun_ops_nil, arun_skip, arun_rgn, arun_rgd, arun_dr_nil, gd_eq, sd_go, sd_gd, nd_no, nn_no, nd_ld, nd_mk, nd_rd, nd_bar, nn_rd, nn_bar, nn_st, gdd_tt, gdd_ff, gdd_tf, gdd_ft, gdd_u, gdd_ntf, gdd_nft, gdd_nu, tc_load, tc_store, tc_alloc, tc_box, tc_buildSlice, tc_makeSlice, tc_call, tc_move, tc_assign, tc_pick, tc_build, tc_nilCheck, tc_binOp, tc_unOp, tc_convert, tc_makeFunc, tc_fieldAddr, tc_field, tc_indexAddr, tc_index, tc_slice, tc_extract, tc_len, tc_min, tc_max, tc_append, tl_eq, ts_eq, tcC, ok_nil, ok_cons, cl_ll, cl_lm, cl_lr, cl_ls, cl_lb, cl_sl, cl_ss, cl_sm, cl_sr, cl_sb, cl_ml, cl_ms, cl_mm, cl_mr, cl_mb, cl_rl, cl_rs, cl_rm, cl_rr, cl_rb, cl_bl, cl_bs, cl_bm, cl_br, cl_bb, arun_seq, arun_block, arun_ret, arun_exit, arun_cnd, cnd_tt, cnd_ff, popB, nxt_put, nxt_non, putA_some, putA_none, st_go, st_gd, gslot, dstA, List.getElem?_toArray, grd_tt, grd_ff, grd_tf, grd_ft, grd_u, grd_ntf, grd_nft, grd_nu, op_move, op_assign, op_box, op_load, op_nilCheck, op_unOp, op_convert, op_fieldAddr, op_field, op_extract, op_pick, op_build, op_buildSlice, op_store, op_binOp, op_makeSlice, op_indexAddr, op_index, op_makeFunc, op_slice, op_call, op_builtin, op_alloc, as_move, as_assign, as_pick, as_build, as_load, as_nilCheck, as_nilCheckf, as_bin, as_un, as_convert, as_makeFunc, as_fieldAddr, as_field, as_indexAddr, as_index, as_slice00, as_slice10, as_slice01, as_slice11, as_extract, as_len, as_min, as_max, as_append, as_call, as_alloc, as_box, as_store, as_buildSlice, bsA, List.size_toArray, List.toList_toArray, Nat.mul_one, Nat.one_mul, Nat.zero_mul, Nat.mul_zero, Nat.zero_add, Nat.add_zero, as_makeSlice, msA, appA, srcA, List.reduceReplicate, List.flatten_cons, List.flatten_nil, ev_tmp, ev_func, ev_i, ev_u, ev_b, ev_nils, ev_nilp, ev_nilf, get_same, get_ne, List.map_cons, List.map_nil, List.map_toArray, ab_u_add, ab_u_sub, ab_u_mul, ab_u_quo, ab_u_rem, ab_u_and, ab_u_or, ab_u_xor, ab_u_andNot, ab_u_eql, ab_u_neq, ab_u_lss, ab_u_leq, ab_u_gtr, ab_u_geq, ab_u_shl, ab_u_shr, ab_i_add, ab_i_sub, ab_i_mul, ab_i_quo, ab_i_rem, ab_i_eql, ab_i_neq, ab_i_lss, ab_i_leq, ab_i_gtr, ab_i_geq, ab_i_shlu, ab_i_shru, ab_b_eql, ab_b_neq, ab_s_eql, ab_s_neq, au_not, au_neg_i, au_neg_u, au_xor_u, ev_i8, cv_u_i8, cv_i_i8, cv_k_i8, ev_i16, cv_u_i16, cv_i_i16, cv_k_i16, ev_i32, cv_u_i32, cv_i_i32, cv_k_i32, ev_u8, cv_u_u8, cv_i_u8, cv_k_u8, ev_u16, cv_u_u16, cv_i_u16, cv_k_u16, ev_u32, cv_u_u32, cv_i_u32, cv_k_u32, cv_k_i64, cv_k_u64, ab_k_add, ab_k_sub, ab_k_mul, ab_k_and, ab_k_or, ab_k_eql, ab_k_neq, ab_k_lss, ab_k_leq, ab_k_gtr, ab_k_geq, ab_k_shlu, ab_k_shru, cv_ii, cv_ui, cv_iu, cv_uu, Option.map_some, Option.bind_some, BitVec.reduceOfInt, BitVec.reduceToNat, BitVec.reduceToInt, BitVec.reduceEq, BitVec.reduceLT, BitVec.reduceLE, BitVec.reduceAdd, BitVec.reduceSub, BitVec.reduceMul, BitVec.reduceUDiv, BitVec.reduceUMod, BitVec.reduceAnd, BitVec.reduceOr, BitVec.reduceXOr, BitVec.reduceNot, BitVec.reduceNeg, BitVec.reduceHShiftLeft, BitVec.reduceHShiftRight, Nat.reduceAdd, Nat.reduceMul, Nat.reduceSub, Nat.reduceBEq, Nat.reduceEqDiff, Nat.reduceLeDiff, Nat.reduceLT, Int.reduceLE, Int.reduceLT, Int.reduceAdd, Int.reduceSub, Int.reduceMul, Int.reduceNeg, Int.reduceToNat, Int.reduceEq, Int.toNat_natCast, Int.cast_ofNat_Int, and_self, and_true, true_and, if_true, if_false, ite_true, ite_false, ↓reduceIte, allocA, storeA, callA, Am.look, buildA, fillA, placeA, fldA, fldV, D.agg, D.is, rd, wr, ldA, indexAddrA, indexA, ixA, lenA, AV.cells, oc_own, oc_vec, oc_view, or_own, or_vec, or_view, oo_own, oo_vec, op_own, op_vec, Sc.one, caps, capV, hg_zero, hg_succ, hg_len, hg_len_add, set_len, set_len_add, List.set_set, wr, List.length_nil, List.length_cons, List.nil_append, List.append_nil, List.cons_append, List.append_assoc, List.length_append, List.getElem?_cons_zero, List.getElem?_cons_succ, List.getD_cons_zero, List.getD_cons_succ, List.zip_cons_cons, List.zip_nil_right, List.zip_nil_left, List.take_zero, List.take_nil, List.take_succ_cons, List.drop_succ_cons, List.drop_zero, List.drop_nil, List.all_cons, List.all_nil, Bool.and_true, Bool.true_and, List.set_cons_zero, List.set_cons_succ, decide_true, decide_false, decide_eq_true_eq, Bool.not_eq_true', Bool.not_true, Bool.not_false, Bool.false_eq_true, reduceCtorEq, Bool.not_eq_eq_eq_not, decide_eq_false_iff_not, imp_self, false_imp_iff, true_imp_iff, forall_const, Bool.true_eq_false, eq_self, Bool.true_beq, Bool.false_beq, Bool.and_false, Bool.false_and, csEq, scEq, eqU, resA, resL, res1, AV.flat, dT1, sT1, bT1, zT1, dT2, sT2, bT2, zT2, dT3, sT3, bT3, zT3, dT4, sT4, bT4, zT4, dT5, sT5, bT5, zT5, dT7, sT7, bT7, zT7, dT9, sT9, bT9, zT9, dT12, sT12, bT12, zT12, dT13, sT13, bT13, zT13, dT21, sT21, bT21, zT21, dT22, sT22, bT22, zT22, dT23, sT23, bT23, zT23, eqT23, neT23, dT24, sT24, bT24, zT24, dT25, sT25, bT25, zT25, dT26, sT26, bT26, zT26, dT27, sT27, bT27, zT27, dT28, sT28, bT28, zT28, dT29, sT29, bT29, zT29, dT30, sT30, bT30, zT30, dT31, sT31, bT31, zT31, dT32, sT32, bT32, zT32, dT33, sT33, bT33, zT33, eqT33, neT33, dT35, sT35, bT35, zT35, dT36, sT36, bT36, zT36, dT37, sT37, bT37, zT37, dT38, sT38, bT38, zT38, dT39, sT39, bT39, zT39, dT40, sT40, bT40, zT40, dT41, sT41, bT41, zT41, dT42, sT42, bT42, zT42, eqT42, neT42, dT43, sT43, bT43, zT43, dT44, sT44, bT44, zT44, dT45, sT45, bT45, zT45, dT47, sT47, bT47, zT47, dT48, sT48, bT48, zT48, dT49, sT49, bT49, zT49, dT50, sT50, bT50, zT50, dT51, sT51, bT51, zT51, dT52, sT52, bT52, zT52, eqT52, neT52, dT53, sT53, bT53, zT53, dT54, sT54, bT54, zT54, dT56, sT56, bT56, zT56, dT57, sT57, bT57, zT57, dT63, sT63, bT63, zT63, dT64, sT64, bT64, zT64, dT67, sT67, bT67, zT67, dT68, sT68, bT68, zT68, dT71, sT71, bT71, zT71, s_pmarked_eq, s_plets_eq, s_pkind_eq, s_pframe_eq, s_ppn_eq, s_live25_eq, t1, e1, e2, e3, m1, m2, hk, k2, f1, f2, f3, BEq.rfl]
    · simp (config := { maxSteps := 10000000 }) only [frA, arun_nil, arun_blk, arun_back, arun_ops_nil, arun_skip, arun_rgn, arun_rgd, arun_dr_nil, gd_eq, sd_go, sd_gd, nd_no, nn_no, nd_ld, nd_mk, nd_rd, nd_bar, nn_rd, nn_bar, nn_st, gdd_tt, gdd_ff, gdd_tf, gdd_ft, gdd_u, gdd_ntf, gdd_nft, gdd_nu, tc_load, tc_store, tc_alloc, tc_box, tc_buildSlice, tc_makeSlice, tc_call, tc_move, tc_assign, tc_pick, tc_build, tc_nilCheck, tc_binOp, tc_unOp, tc_convert, tc_makeFunc, tc_fieldAddr, tc_field, tc_indexAddr, tc_index, tc_slice, tc_extract, tc_len, tc_min, tc_max, tc_append, tl_eq, ts_eq, tcC, ok_nil, ok_cons, cl_ll, cl_lm, cl_lr, cl_ls, cl_lb, cl_sl, cl_ss, cl_sm, cl_sr, cl_sb, cl_ml, cl_ms, cl_mm, cl_mr, cl_mb, cl_rl, cl_rs, cl_rm, cl_rr, cl_rb, cl_bl, cl_bs, cl_bm, cl_br, cl_bb, arun_seq, arun_block, arun_ret, arun_exit, arun_cnd, cnd_tt, cnd_ff, popB, nxt_put, nxt_non, putA_some, putA_none, st_go, st_gd, gslot, dstA, List.getElem?_toArray, grd_tt, grd_ff, grd_tf, grd_ft, grd_u, grd_ntf, grd_nft, grd_nu, op_move, op_assign, op_box, op_load, op_nilCheck, op_unOp, op_convert, op_fieldAddr, op_field, op_extract, op_pick, op_build, op_buildSlice, op_store, op_binOp, op_makeSlice, op_indexAddr, op_index, op_makeFunc, op_slice, op_call, op_builtin, op_alloc, as_move, as_assign, as_pick, as_build, as_load, as_nilCheck, as_nilCheckf, as_bin, as_un, as_convert, as_makeFunc, as_fieldAddr, as_field, as_indexAddr, as_index, as_slice00, as_slice10, as_slice01, as_slice11, as_extract, as_len, as_min, as_max, as_append, as_call, as_alloc, as_box, as_store, as_buildSlice, bsA, List.size_toArray, List.toList_toArray, Nat.mul_one, Nat.one_mul, Nat.zero_mul, Nat.mul_zero, Nat.zero_add, Nat.add_zero, as_makeSlice, msA, appA, srcA, List.reduceReplicate, List.flatten_cons, List.flatten_nil, ev_tmp, ev_func, ev_i, ev_u, ev_b, ev_nils, ev_nilp, ev_nilf, get_same, get_ne, List.map_cons, List.map_nil, List.map_toArray, ab_u_add, ab_u_sub, ab_u_mul, ab_u_quo, ab_u_rem, ab_u_and, ab_u_or, ab_u_xor, ab_u_andNot, ab_u_eql, ab_u_neq, ab_u_lss, ab_u_leq, ab_u_gtr, ab_u_geq, ab_u_shl, ab_u_shr, ab_i_add, ab_i_sub, ab_i_mul, ab_i_quo, ab_i_rem, ab_i_eql, ab_i_neq, ab_i_lss, ab_i_leq, ab_i_gtr, ab_i_geq, ab_i_shlu, ab_i_shru, ab_b_eql, ab_b_neq, ab_s_eql, ab_s_neq, au_not, au_neg_i, au_neg_u, au_xor_u, ev_i8, cv_u_i8, cv_i_i8, cv_k_i8, ev_i16, cv_u_i16, cv_i_i16, cv_k_i16, ev_i32, cv_u_i32, cv_i_i32, cv_k_i32, ev_u8, cv_u_u8, cv_i_u8, cv_k_u8, ev_u16, cv_u_u16, cv_i_u16, cv_k_u16, ev_u32, cv_u_u32, cv_i_u32, cv_k_u32, cv_k_i64, cv_k_u64, ab_k_add, ab_k_sub, ab_k_mul, ab_k_and, ab_k_or, ab_k_eql, ab_k_neq, ab_k_lss, ab_k_leq, ab_k_gtr, ab_k_geq, ab_k_shlu, ab_k_shru, cv_ii, cv_ui, cv_iu, cv_uu, Option.map_some, Option.bind_some, BitVec.reduceOfInt, BitVec.reduceToNat, BitVec.reduceToInt, BitVec.reduceEq, BitVec.reduceLT, BitVec.reduceLE, BitVec.reduceAdd, BitVec.reduceSub, BitVec.reduceMul, BitVec.reduceUDiv, BitVec.reduceUMod, BitVec.reduceAnd, BitVec.reduceOr, BitVec.reduceXOr, BitVec.reduceNot, BitVec.reduceNeg, BitVec.reduceHShiftLeft, BitVec.reduceHShiftRight, Nat.reduceAdd, Nat.reduceMul, Nat.reduceSub, Nat.reduceBEq, Nat.reduceEqDiff, Nat.reduceLeDiff, Nat.reduceLT, Int.reduceLE, Int.reduceLT, Int.reduceAdd, Int.reduceSub, Int.reduceMul, Int.reduceNeg, Int.reduceToNat, Int.reduceEq, Int.toNat_natCast, Int.cast_ofNat_Int, and_self, and_true, true_and, if_true, if_false, ite_true, ite_false, ↓reduceIte, allocA, storeA, callA, Am.look, buildA, fillA, placeA, fldA, fldV, D.agg, D.is, rd, wr, ldA, indexAddrA, indexA, ixA, lenA, AV.cells, oc_own, oc_vec, oc_view, or_own, or_vec, or_view, oo_own, oo_vec, op_own, op_vec, Sc.one, caps, capV, hg_zero, hg_succ, hg_len, hg_len_add, set_len, set_len_add, List.set_set, wr, List.length_nil, List.length_cons, List.nil_append, List.append_nil, List.cons_append, List.append_assoc, List.length_append, List.getElem?_cons_zero, List.getElem?_cons_succ, List.getD_cons_zero, List.getD_cons_succ, List.zip_cons_cons, List.zip_nil_right, List.zip_nil_left, List.take_zero, List.take_nil, List.take_succ_cons, List.drop_succ_cons, List.drop_zero, List.drop_nil, List.all_cons, List.all_nil, Bool.and_true, Bool.true_and, List.set_cons_zero, List.set_cons_succ, decide_true, decide_false, decide_eq_true_eq, Bool.not_eq_true', Bool.not_true, Bool.not_false, Bool.false_eq_true, reduceCtorEq, Bool.not_eq_eq_eq_not, decide_eq_false_iff_not, imp_self, false_imp_iff, true_imp_iff, forall_const, Bool.true_eq_false, eq_self, Bool.true_beq, Bool.false_beq, Bool.and_false, Bool.false_and, csEq, scEq, eqU, resA, resL, res1, AV.flat, dT1, sT1, bT1, zT1, dT2, sT2, bT2, zT2, dT3, sT3, bT3, zT3, dT4, sT4, bT4, zT4, dT5, sT5, bT5, zT5, dT7, sT7, bT7, zT7, dT9, sT9, bT9, zT9, dT12, sT12, bT12, zT12, dT13, sT13, bT13, zT13, dT21, sT21, bT21, zT21, dT22, sT22, bT22, zT22, dT23, sT23, bT23, zT23, eqT23, neT23, dT24, sT24, bT24, zT24, dT25, sT25, bT25, zT25, dT26, sT26, bT26, zT26, dT27, sT27, bT27, zT27, dT28, sT28, bT28, zT28, dT29, sT29, bT29, zT29, dT30, sT30, bT30, zT30, dT31, sT31, bT31, zT31, dT32, sT32, bT32, zT32, dT33, sT33, bT33, zT33, eqT33, neT33, dT35, sT35, bT35, zT35, dT36, sT36, bT36, zT36, dT37, sT37, bT37, zT37, dT38, sT38, bT38, zT38, dT39, sT39, bT39, zT39, dT40, sT40, bT40, zT40, dT41, sT41, bT41, zT41, dT42, sT42, bT42, zT42, eqT42, neT42, dT43, sT43, bT43, zT43, dT44, sT44, bT44, zT44, dT45, sT45, bT45, zT45, dT47, sT47, bT47, zT47, dT48, sT48, bT48, zT48, dT49, sT49, bT49, zT49, dT50, sT50, bT50, zT50, dT51, sT51, bT51, zT51, dT52, sT52, bT52, zT52, eqT52, neT52, dT53, sT53, bT53, zT53, dT54, sT54, bT54, zT54, dT56, sT56, bT56, zT56, dT57, sT57, bT57, zT57, dT63, sT63, bT63, zT63, dT64, sT64, bT64, zT64, dT67, sT67, bT67, zT67, dT68, sT68, bT68, zT68, dT71, sT71, bT71, zT71, s_pmarked_eq, s_plets_eq, s_pkind_eq, s_pframe_eq, s_ppn_eq, s_live25_eq, t1, m1, m2, hk, BEq.rfl]
  · simp at h

end
end Go.Proofs.Ytkibkplfcnoahaa
