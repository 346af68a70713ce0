/- Contracts of layer 1, by bits: signs and shifts. -/
import Derived.Test.YtppmkmkadidemaaB1
namespace Go.Proofs.Ytppmkmkadidemaa
open Go.Am
set_option linter.unusedSimpArgs false
set_option linter.unusedVariables false
noncomputable section

theorem sar_eq {x : BitVec 64} {u : Nat} (h : u ≤ 64) : BitVec.ofInt 64 (x.toInt / 2 ^ (min u 64)) = x.sshiftRight u := by
  rw [Nat.min_eq_left h]
  unfold BitVec.sshiftRight
  rw [Int.shiftRight_eq_div_pow]
  simp
theorem sar_get {x : BitVec 64} {u i : Nat} (hi : i < 64) : (x.sshiftRight u).getLsbD i = if i + u < 64 then x.getLsbD (i + u) else x.getLsbD 63 := by
  rw [BitVec.getLsbD_sshiftRight]
  have : decide (64 ≤ i) = false := by simp; omega
  simp only [this, Bool.not_false, Bool.true_and, BitVec.msb_eq_getLsbD_last]
  rw [Nat.add_comm]
theorem sign_0 {w : BitVec 64} {s : Int} (h : s < 1) : signU w s = 0#64 := by
  refine (ofG_ext fun i hi => ?_).symm
  have : ¬ 1 ≤ s := by omega
  simp [this]
theorem sign_all {w : BitVec 64} {s : Int} (h : 63 < s) : signU w s = w := by
  refine (ofG_ext fun i hi => ?_).symm
  have h1 : 1 ≤ s := by omega
  have h2 : (i : Int) < s := by omega
  simp [h1, h2]
theorem sign_mid {w : BitVec 64} {s : Nat} (h : 1 ≤ s) (h' : s ≤ 63) : (w <<< (64 - s)).sshiftRight (64 - s) = signU w s := by
  refine ofG_ext fun i hi => ?_
  rw [sar_get hi]
  have h1 : (1 : Int) ≤ s := by omega
  simp only [h1, decide_true, Bool.true_and]
  by_cases h2 : i < s
  · rw [if_pos (by omega), if_pos (by omega), BitVec.getLsbD_shiftLeft]
    have e : i + (64 - s) - (64 - s) = i := by omega
    have e2 : i + (64 - s) < 64 := by omega
    simp [e, e2]
  · rw [if_neg (by omega), if_neg (by omega), BitVec.getLsbD_shiftLeft]
    have e : ((s : Int) - 1) = ((s - 1 : Nat) : Int) := by omega
    rw [e, bitB_n]
    have e2 : 63 - (64 - s) = s - 1 := by omega
    simp [e2]; omega


theorem word_int (w : BitVec 64) : IntKind.i32.wrap (IntKind.u32.wrap (w.toNat : Int)) = (w.setWidth 32).toInt := by
  rw [BitVec.toInt_eq_toNat_cond, BitVec.toNat_setWidth]
  simp only [IntKind.wrap, IntKind.bits, IntKind.signed, Bool.true_and, Bool.false_and]
  split <;> split <;> simp at * <;> omega
theorem sext_eq (w : BitVec 64) : BitVec.ofInt 64 (w.setWidth 32).toInt = signU w 32 := by
  refine ofG_ext fun i hi => ?_
  have : BitVec.ofInt 64 (w.setWidth 32).toInt = (w.setWidth 32).signExtend 64 := rfl
  rw [this, BitVec.getLsbD_signExtend]
  simp only [hi, decide_true, Bool.true_and, BitVec.msb_eq_getLsbD_last, BitVec.getLsbD_setWidth]
  have e : ((32 : Int) - 1) = ((31 : Nat) : Int) := rfl
  by_cases h : i < 32
  · have h2 : (i : Int) < 32 := by omega
    simp [h, h2]
  · have h2 : ¬ (i : Int) < 32 := by omega
    rw [if_neg h, if_neg h2, e, bitB_n]; simp
theorem word_eq (w : BitVec 64) : BitVec.ofInt 64 (IntKind.i32.wrap (IntKind.u32.wrap (w.toNat : Int))) = signU w 32 := by rw [word_int, sext_eq]
def s_word32 (args : List AV) : Option AV :=
  match args with
  | [.c (.u w)] => some (.c (.u (signU w 32)))
  | _ => none
theorem s_word32_eq {w} : s_word32 [.c (.u w)] = some (.c (.u (signU w 32))) := rfl
set_option maxRecDepth 100000 in
set_option maxHeartbeats 2000000 in
theorem ok_word32 : PuOk Try.prog 37 s_word32 := by
  refine pu_ok (tab := []) hmix TabOk.nil Try.func37 rfl Try.results37 Try.ntmps37 (by kernel_rfl) (by kernel_rfl) ?_
  intro args v h
  unfold s_word32 at h
  split at h
  · rename_i w
    simp only [Option.some.injEq] at h; subst h
    refine ⟨by simp only [List.length_cons, List.length_nil]; decide, rfl, rfl, ?_⟩
    simp (config := { maxSteps := 10000000 }) only [frA, arun_nil, arun_blk, arun_back, arun_ops_nil, arun_skip, arun_rgn, arun_rgd, arun_dr_nil, gd_eq, sd_go, sd_gd, nd_no, nn_no, nd_ld, nd_mk, nd_rd, nd_bar, nn_rd, nn_bar, nn_st, gdd_tt, gdd_ff, gdd_tf, gdd_ft, gdd_u, gdd_ntf, gdd_nft, gdd_nu, tc_load, tc_store, tc_alloc, tc_box, tc_buildSlice, tc_makeSlice, tc_call, tc_move, tc_assign, tc_pick, tc_build, tc_nilCheck, tc_binOp, tc_unOp, tc_convert, tc_makeFunc, tc_fieldAddr, tc_field, tc_indexAddr, tc_index, tc_slice, tc_extract, tc_len, tc_min, tc_max, tc_append, tl_eq, ts_eq, tcC, ok_nil, ok_cons, cl_ll, cl_lm, cl_lr, cl_ls, cl_lb, cl_sl, cl_ss, cl_sm, cl_sr, cl_sb, cl_ml, cl_ms, cl_mm, cl_mr, cl_mb, cl_rl, cl_rs, cl_rm, cl_rr, cl_rb, cl_bl, cl_bs, cl_bm, cl_br, cl_bb, arun_seq, arun_block, arun_ret, arun_exit, arun_cnd, cnd_tt, cnd_ff, popB, nxt_put, nxt_non, putA_some, putA_none, st_go, st_gd, gslot, dstA, List.getElem?_toArray, grd_tt, grd_ff, grd_tf, grd_ft, grd_u, grd_ntf, grd_nft, grd_nu, op_move, op_assign, op_box, op_load, op_nilCheck, op_unOp, op_convert, op_fieldAddr, op_field, op_extract, op_pick, op_build, op_buildSlice, op_store, op_binOp, op_makeSlice, op_indexAddr, op_index, op_makeFunc, op_slice, op_call, op_builtin, op_alloc, as_move, as_assign, as_pick, as_build, as_load, as_nilCheck, as_nilCheckf, as_bin, as_un, as_convert, as_makeFunc, as_fieldAddr, as_field, as_indexAddr, as_index, as_slice00, as_slice10, as_slice01, as_slice11, as_extract, as_len, as_min, as_max, as_append, as_call, as_alloc, as_box, as_store, as_buildSlice, bsA, List.size_toArray, List.toList_toArray, Nat.mul_one, Nat.one_mul, Nat.zero_mul, Nat.mul_zero, Nat.zero_add, Nat.add_zero, as_makeSlice, msA, appA, srcA, List.reduceReplicate, List.flatten_cons, List.flatten_nil, ev_tmp, ev_func, ev_i, ev_u, ev_b, ev_nils, ev_nilp, ev_nilf, get_same, get_ne, List.map_cons, List.map_nil, List.map_toArray, ab_u_add, ab_u_sub, ab_u_mul, ab_u_quo, ab_u_rem, ab_u_and, ab_u_or, ab_u_xor, ab_u_andNot, ab_u_eql, ab_u_neq, ab_u_lss, ab_u_leq, ab_u_gtr, ab_u_geq, ab_u_shl, ab_u_shr, ab_i_add, ab_i_sub, ab_i_mul, ab_i_quo, ab_i_rem, ab_i_eql, ab_i_neq, ab_i_lss, ab_i_leq, ab_i_gtr, ab_i_geq, ab_i_shlu, ab_i_shru, ab_b_eql, ab_b_neq, ab_s_eql, ab_s_neq, au_not, au_neg_i, au_neg_u, au_xor_u, ev_i8, cv_u_i8, cv_i_i8, cv_k_i8, ev_i16, cv_u_i16, cv_i_i16, cv_k_i16, ev_i32, cv_u_i32, cv_i_i32, cv_k_i32, ev_u8, cv_u_u8, cv_i_u8, cv_k_u8, ev_u16, cv_u_u16, cv_i_u16, cv_k_u16, ev_u32, cv_u_u32, cv_i_u32, cv_k_u32, cv_k_i64, cv_k_u64, ab_k_add, ab_k_sub, ab_k_mul, ab_k_and, ab_k_or, ab_k_eql, ab_k_neq, ab_k_lss, ab_k_leq, ab_k_gtr, ab_k_geq, ab_k_shlu, ab_k_shru, cv_ii, cv_ui, cv_iu, cv_uu, Option.map_some, Option.bind_some, BitVec.reduceOfInt, BitVec.reduceToNat, BitVec.reduceToInt, BitVec.reduceEq, BitVec.reduceLT, BitVec.reduceLE, BitVec.reduceAdd, BitVec.reduceSub, BitVec.reduceMul, BitVec.reduceUDiv, BitVec.reduceUMod, BitVec.reduceAnd, BitVec.reduceOr, BitVec.reduceXOr, BitVec.reduceNot, BitVec.reduceNeg, BitVec.reduceHShiftLeft, BitVec.reduceHShiftRight, Nat.reduceAdd, Nat.reduceMul, Nat.reduceSub, Nat.reduceBEq, Nat.reduceEqDiff, Nat.reduceLeDiff, Nat.reduceLT, Int.reduceLE, Int.reduceLT, Int.reduceAdd, Int.reduceSub, Int.reduceMul, Int.reduceNeg, Int.reduceToNat, Int.reduceEq, Int.toNat_natCast, Int.cast_ofNat_Int, and_self, and_true, true_and, if_true, if_false, ite_true, ite_false, ↓reduceIte, allocA, storeA, callA, Am.look, buildA, fillA, placeA, fldA, fldV, D.agg, D.is, rd, wr, ldA, indexAddrA, indexA, ixA, lenA, AV.cells, oc_own, oc_vec, oc_view, or_own, or_vec, or_view, oo_own, oo_vec, op_own, op_vec, Sc.one, caps, capV, hg_zero, hg_succ, hg_len, hg_len_add, set_len, set_len_add, List.set_set, wr, List.length_nil, List.length_cons, List.nil_append, List.append_nil, List.cons_append, List.append_assoc, List.length_append, List.getElem?_cons_zero, List.getElem?_cons_succ, List.getD_cons_zero, List.getD_cons_succ, List.zip_cons_cons, List.zip_nil_right, List.zip_nil_left, List.take_zero, List.take_nil, List.take_succ_cons, List.drop_succ_cons, List.drop_zero, List.drop_nil, List.all_cons, List.all_nil, Bool.and_true, Bool.true_and, List.set_cons_zero, List.set_cons_succ, decide_true, decide_false, decide_eq_true_eq, Bool.not_eq_true', Bool.not_true, Bool.not_false, Bool.false_eq_true, reduceCtorEq, Bool.not_eq_eq_eq_not, decide_eq_false_iff_not, imp_self, false_imp_iff, true_imp_iff, forall_const, Bool.true_eq_false, eq_self, Bool.true_beq, Bool.false_beq, Bool.and_false, Bool.false_and, csEq, scEq, eqU, resA, resL, res1, AV.flat, dT1, sT1, bT1, zT1, dT2, sT2, bT2, zT2, dT3, sT3, bT3, zT3, dT4, sT4, bT4, zT4, dT5, sT5, bT5, zT5, dT7, sT7, bT7, zT7, dT9, sT9, bT9, zT9, dT12, sT12, bT12, zT12, dT13, sT13, bT13, zT13, dT21, sT21, bT21, zT21, dT22, sT22, bT22, zT22, dT23, sT23, bT23, zT23, dT24, sT24, bT24, zT24, dT25, sT25, bT25, zT25, dT26, sT26, bT26, zT26, dT27, sT27, bT27, zT27, eqT27, neT27, dT28, sT28, bT28, zT28, dT29, sT29, bT29, zT29, eqT29, neT29, dT30, sT30, bT30, zT30, dT31, sT31, bT31, zT31, dT33, sT33, bT33, zT33, dT35, sT35, bT35, zT35, dT36, sT36, bT36, zT36, dT38, sT38, bT38, zT38, dT39, sT39, bT39, zT39, dT40, sT40, bT40, zT40, dT41, sT41, bT41, zT41, dT42, sT42, bT42, zT42, dT43, sT43, bT43, zT43, dT44, sT44, bT44, zT44, dT45, sT45, bT45, zT45, dT46, sT46, bT46, zT46, dT47, sT47, bT47, zT47, dT48, sT48, bT48, zT48, dT49, sT49, bT49, zT49, dT50, sT50, bT50, zT50, dT51, sT51, bT51, zT51, dT53, sT53, bT53, zT53, dT54, sT54, bT54, zT54, dT55, sT55, bT55, zT55, dT56, sT56, bT56, zT56, dT58, sT58, bT58, zT58, dT59, sT59, bT59, zT59, dT65, sT65, bT65, zT65, dT68, sT68, bT68, zT68, dT69, sT69, bT69, zT69, dT72, sT72, bT72, zT72, word_eq]
  · simp at h


theorem and63 (n : BitVec 64) : (n &&& 63#64).toNat = n.toNat % 64 := by
  rw [BitVec.toNat_and]; exact Nat.and_two_pow_sub_one_eq_mod n.toNat 6
theorem and31 (n : BitVec 64) : (n &&& 31#64).toNat = n.toNat % 32 := by
  rw [BitVec.toNat_and]; exact Nat.and_two_pow_sub_one_eq_mod n.toNat 5
def sraU (w : BitVec 64) (f : Nat) : BitVec 64 := ofG fun i => if i + f < 64 then w.getLsbD (i + f) else w.getLsbD 63
theorem sraU_eq {w : BitVec 64} {f : Nat} : w.sshiftRight f = sraU w f := ofG_ext fun i hi => by rw [sar_get hi]
theorem sign_mod {x y : BitVec 64} (h : x.toNat % 4294967296 = y.toNat % 4294967296) : signU x 32 = signU y 32 := by
  have e : x.setWidth 32 = y.setWidth 32 := BitVec.eq_of_toNat_eq (by simpa using h)
  rw [← sext_eq, ← sext_eq, e]
theorem sllw_eq (w : BitVec 64) (f : Nat) (hf : f < 32) : signU (BitVec.ofInt 64 (IntKind.u32.wrap (IntKind.u32.wrap (w.toNat : Int) * 2 ^ (min f IntKind.u32.bits)))) 32 = signU (shiftU w (f : Int)) 32 := by
  apply sign_mod
  rw [shiftU_l, BitVec.toNat_shiftLeft, Nat.shiftLeft_eq]
  have e : min f IntKind.u32.bits = f := Nat.min_eq_left (by simp [IntKind.bits]; omega)
  rw [e]
  have e1 : IntKind.u32.wrap (IntKind.u32.wrap (w.toNat : Int) * 2 ^ f) = ((w.toNat % 4294967296 * 2 ^ f % 4294967296 : Nat) : Int) := by
    have h : ∀ x : Int, IntKind.u32.wrap x = x % 4294967296 := fun x => by simp [IntKind.wrap, IntKind.bits, IntKind.signed]
    rw [h, h, Int.natCast_emod, Int.natCast_mul, Int.natCast_emod, Int.natCast_pow]; rfl
  have e2 : w.toNat % 4294967296 * 2 ^ f % 4294967296 = w.toNat * 2 ^ f % 4294967296 := by rw [Nat.mul_mod, Nat.mod_mod, ← Nat.mul_mod]
  rw [e1, ofI_nat (by omega)]
  generalize w.toNat % 4294967296 * 2 ^ f = A at *
  generalize w.toNat * 2 ^ f = B at *
  omega
theorem srlw_eq (w : BitVec 64) (f : Nat) (hf : f < 32) : BitVec.ofInt 64 (IntKind.u32.wrap (w.toNat : Int) / 2 ^ (min f IntKind.u32.bits)) = shiftU (lowU w 32) (-(f : Int)) := by
  have e : min f IntKind.u32.bits = f := Nat.min_eq_left (by simp [IntKind.bits]; omega)
  have e1 : IntKind.u32.wrap (w.toNat : Int) / 2 ^ f = ((w.toNat % 4294967296 / 2 ^ f : Nat) : Int) := by
    simp [IntKind.wrap, IntKind.bits, IntKind.signed]
  rw [e, e1, shiftU_r]
  have e2 : lowU w 32 = BitVec.ofNat 64 (w.toNat % 4294967296) := by
    refine (ofG_ext fun i hi => ?_).symm
    rw [BitVec.getLsbD_ofNat, show (4294967296 : Nat) = 2 ^ 32 from rfl, Nat.testBit_mod_two_pow]
    have : decide (i < 32) = decide ((i : Int) < 32) := decide_eq_decide.2 (by omega)
    rw [this]; simp [hi]; rfl
  apply BitVec.eq_of_toNat_eq
  have h2 : w.toNat % 4294967296 / 2 ^ f ≤ w.toNat % 4294967296 := Nat.div_le_self _ _
  rw [ofI_nat (by omega), e2, BitVec.toNat_ushiftRight, Nat.shiftRight_eq_div_pow, BitVec.toNat_ofNat]
  congr 1; omega
theorem sraw_eq (w : BitVec 64) (f : Nat) (hf : f < 32) : BitVec.ofInt 64 (IntKind.i32.wrap (IntKind.u32.wrap (w.toNat : Int)) / 2 ^ (min f IntKind.i32.bits)) = sraU (signU w 32) f := by
  have e : min f IntKind.i32.bits = f := Nat.min_eq_left (by simp [IntKind.bits]; omega)
  have e2 : (signU w 32).toInt = IntKind.i32.wrap (IntKind.u32.wrap (w.toNat : Int)) := by
    rw [word_int, ← sext_eq]
    exact BitVec.toInt_signExtend_of_le (by omega)
  rw [e, ← e2, ← sraU_eq, ← sar_eq (by omega : f ≤ 64), Nat.min_eq_left (by omega : f ≤ 64)]

end
end Go.Proofs.Ytppmkmkadidemaa
