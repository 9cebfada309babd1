/- Ints: moving bits. -/
import Derived.Test.YtpncjpgjmpemiaaDoorIntsRing0
namespace Go.Proofs.YtpncjpgjmpemiaaDoor
open Go.RowKit
set_option linter.unusedSimpArgs false
set_option linter.unusedVariables false
section
variable {P : Program} {call : CallFn} {all os : List Oper} {base k : Nat} {env : Tr Value} {H H' : AHeap} {Q : Tr Value × AHeap → Prop} {d : Option Tmp} {op : Op} {ty : TypeId} {ps : String} {af : Array Edge} {v : Value}
theorem s_op (h : Got (aStep P call (aEval env) ⟨d, op, ty, ps, af, none⟩ (base + k) H) fun r => r = (v, H')) (h2 : Got (rOps P call all base os (k + 1) (putE env d v) H') Q) : Got (rOps P call all base (⟨d, op, ty, ps, af, none⟩ :: os) k env H) Q := by
  rw [y_op]; exact h.mono fun a e => by rw [e]; exact h2
theorem s_on {j : Nat} {w : Bool} (hw : wantedA ⟨d, op, ty, ps, af, some (j, w)⟩ all env = true) (h : Got (aStep P call (aEval env) ⟨d, op, ty, ps, af, none⟩ (base + k) H) fun r => r = (v, H')) (h2 : Got (rOps P call all base os (k + 1) (putE env d v) H') Q) : Got (rOps P call all base (⟨d, op, ty, ps, af, some (j, w)⟩ :: os) k env H) Q := by
  rw [y_guard, hw]; exact h.mono fun a e => by rw [e]; exact h2
theorem s_nil (h : Q (env, H)) : Got (rOps P call all base [] k env H) Q := by rw [y_nil]; exact h
theorem s_region {fuel id : Nat} {ops : Array Oper} {o : Tr AObj} {nx m : Nat} {lg : List Nat} {R : St → Prop} (hm : ops.toList.length = m) (h : Got (rOps P call ops.toList nx ops.toList 0 env ⟨o, nx + m, lg⟩) fun r => R (.on, r.1, r.2)) : Got (rCode P call fuel (.region id ops false) env ⟨o, nx, lg⟩) R := by
  subst hm; rw [y_region]; exact h
end
section
variable {O : Helps} {n : Nat} {o : Tr AObj} {nx : Nat} {lg : List Nat}
theorem do2_ok (hO : Clear O) (op : Int) (A B : W64) : oCall Tryd.prog gs2 O (n + 3) 34 [.int .u8 op, .int .i64 A.toInt, .int .i64 B.toInt] ⟨o, nx, lg⟩ = some (.int .i64 (doL op A B).toInt, ⟨o, nx, lg⟩) := by
  refine of_got ?_
  rw [y_fn (rs := [.tmp 6]) (hO _ (by decide)) Tryd.func34 rfl (by kernel_rfl) rfl rfl]
  unfold doL
  by_cases h : (arithL op A B).2 = 0
  · rw [if_pos h]
    simp (maxDischargeDepth := 6) only [y_seq, y_region, y_cond, y_skip, y_ret, y_exit, y_label, y_block, y_scope, onTo_on, onTo_out, onTo_back, outOf_on, outOf_back, outOf_out, inScope_on, inScope_back, y_nil, y_op, y_guard, want_eq, y_draw, yd_nil, yd_op, relogL_nil, calm_nil, calm_pure_r, calm_cons, clash_pure_r, clash_pure_l, clash_ll, clash_lf, clash_fl, clash_ff, clash_lo, clash_ol, clash_fo, clash_of, clash_oo, List.any_nil, beq_self, List.isEmpty_nil, Bool.true_or, Bool.or_true, classOf, st_move, st_assign, st_pick, st_alloc, st_box, st_buildV, st_load, st_store, st_nilCheck, st_field, st_extract, st_makeFunc, st_makeMap, st_fieldAddr, st_binOp, st_lookup, st_call, st_mapUpdate, st_insert, aEval_tmp, aEval_const, aEval_func, putE_some, putE_none, get_put_same, get_put_ne, Tr.get_nil, argsEnv, heap_get, heap_upd, heap_add, new_row, got_some, got_none, got_map, got_bind, boolOf, someRef, addOff, tupleAt, isC, fnEnd_on, fnEnd_back, fnEnd_out, res_nil, res_tmp, res_cell, oneOf_one, oneOf_two, oneOf_three, oneOf_nil, rowAt, Option.getD_some, Option.getD_none, Option.bind_some, Option.bind_none, Option.map_some, Option.map_none, ↓c_true, ↓c_false, List.length_cons, List.length_nil, List.getElem?_cons_succ, List.getElem?_cons_zero, Nat.reduceAdd, Nat.reduceEqDiff, ne_eq, not_false_eq_true, Nat.add_zero, Nat.zero_add, Nat.add_assoc, List.map_cons, List.map_nil, List.nil_append, List.append_nil, List.cons_append, Bool.not_true, Bool.not_false, ne_new, ne_new0, new_ne, new_ne0, self_ne, self_ne', Nat.add_left_cancel_iff, all_note, List.all_nil, ble_self, ble_add, Bool.and_self, Bool.and_true, Bool.true_and, true_and, and_true, b_add, b_sub, b_mul, b_lss, b_leq, b_gtr, b_geq, b_eql, b_neq, store_nil, store_cons, ownRow, oneV_int, oneV_bool, oneV_string, oneV_ptr, oneV_map, oneV_slice, cells_int, cells_bool, cells_string, cells_ptr, cells_map, cells_slice, cells_agg, low_int, low_bool, low_string, low_unit, low_vv, cut_two, leave_quiet, List.set_cons_zero, List.set_cons_succ, Nat.reduceLT, and_self, if_true, ite_true, List.size_toArray, Nat.lt_add_one, Nat.zero_lt_succ, List.getElem?_toArray, st_lenV, st_unOp, unV_not, cast_of, cut_one, cut_three, cut_four, cut_five, cut_six, st_slice, isSl_slice, Int.reduceLE, Int.reduceLT, Int.reduceEq, Int.reduceNeg, Int.reduceAdd, decide_true, decide_false, lt_new, any_note, isEmpty_note, beq_new, beq_new0, beq_add, Bool.or_false, Bool.false_or, Bool.false_and, Bool.and_false, Bool.or_self, st_indexS, st_sliceS, isStr_str, st_convI, isInt_int, b_eqlS, b_neqS, b_and, b_or, b_xor, b_shl, b_shr, unV_neg, unV_xor, low_str, low_ii, low_ib, low_bi, low_si, low_sb, ofNat_ge, toNat_of, ofNat_lt, ofNat_le, ofNat_eq, byte_eq, size_str, y_app, lenL_nil, lenL_cons, lenL_app, dstAt_zero, dstAt_succ, dstAt_app, Nat.reduceSub, if_false, ite_false, calleeV_func _ _ _ co_23, arith_ok hO op A B, decide_eq_true h]
    try exact leave_quiet (by rfl) (by rfl)
  · rw [if_neg h]
    simp (maxDischargeDepth := 6) only [y_seq, y_region, y_cond, y_skip, y_ret, y_exit, y_label, y_block, y_scope, onTo_on, onTo_out, onTo_back, outOf_on, outOf_back, outOf_out, inScope_on, inScope_back, y_nil, y_op, y_guard, want_eq, y_draw, yd_nil, yd_op, relogL_nil, calm_nil, calm_pure_r, calm_cons, clash_pure_r, clash_pure_l, clash_ll, clash_lf, clash_fl, clash_ff, clash_lo, clash_ol, clash_fo, clash_of, clash_oo, List.any_nil, beq_self, List.isEmpty_nil, Bool.true_or, Bool.or_true, classOf, st_move, st_assign, st_pick, st_alloc, st_box, st_buildV, st_load, st_store, st_nilCheck, st_field, st_extract, st_makeFunc, st_makeMap, st_fieldAddr, st_binOp, st_lookup, st_call, st_mapUpdate, st_insert, aEval_tmp, aEval_const, aEval_func, putE_some, putE_none, get_put_same, get_put_ne, Tr.get_nil, argsEnv, heap_get, heap_upd, heap_add, new_row, got_some, got_none, got_map, got_bind, boolOf, someRef, addOff, tupleAt, isC, fnEnd_on, fnEnd_back, fnEnd_out, res_nil, res_tmp, res_cell, oneOf_one, oneOf_two, oneOf_three, oneOf_nil, rowAt, Option.getD_some, Option.getD_none, Option.bind_some, Option.bind_none, Option.map_some, Option.map_none, ↓c_true, ↓c_false, List.length_cons, List.length_nil, List.getElem?_cons_succ, List.getElem?_cons_zero, Nat.reduceAdd, Nat.reduceEqDiff, ne_eq, not_false_eq_true, Nat.add_zero, Nat.zero_add, Nat.add_assoc, List.map_cons, List.map_nil, List.nil_append, List.append_nil, List.cons_append, Bool.not_true, Bool.not_false, ne_new, ne_new0, new_ne, new_ne0, self_ne, self_ne', Nat.add_left_cancel_iff, all_note, List.all_nil, ble_self, ble_add, Bool.and_self, Bool.and_true, Bool.true_and, true_and, and_true, b_add, b_sub, b_mul, b_lss, b_leq, b_gtr, b_geq, b_eql, b_neq, store_nil, store_cons, ownRow, oneV_int, oneV_bool, oneV_string, oneV_ptr, oneV_map, oneV_slice, cells_int, cells_bool, cells_string, cells_ptr, cells_map, cells_slice, cells_agg, low_int, low_bool, low_string, low_unit, low_vv, cut_two, leave_quiet, List.set_cons_zero, List.set_cons_succ, Nat.reduceLT, and_self, if_true, ite_true, List.size_toArray, Nat.lt_add_one, Nat.zero_lt_succ, List.getElem?_toArray, st_lenV, st_unOp, unV_not, cast_of, cut_one, cut_three, cut_four, cut_five, cut_six, st_slice, isSl_slice, Int.reduceLE, Int.reduceLT, Int.reduceEq, Int.reduceNeg, Int.reduceAdd, decide_true, decide_false, lt_new, any_note, isEmpty_note, beq_new, beq_new0, beq_add, Bool.or_false, Bool.false_or, Bool.false_and, Bool.and_false, Bool.or_self, st_indexS, st_sliceS, isStr_str, st_convI, isInt_int, b_eqlS, b_neqS, b_and, b_or, b_xor, b_shl, b_shr, unV_neg, unV_xor, low_str, low_ii, low_ib, low_bi, low_si, low_sb, ofNat_ge, toNat_of, ofNat_lt, ofNat_le, ofNat_eq, byte_eq, size_str, y_app, lenL_nil, lenL_cons, lenL_app, dstAt_zero, dstAt_succ, dstAt_app, Nat.reduceSub, if_false, ite_false, calleeV_func _ _ _ co_23, arith_ok hO op A B, decide_eq_false h]
    try exact leave_quiet (by rfl) (by rfl)
theorem do2_lit (hO : Clear O) (op : Int) (A : W64) (b : Int) (h0 : -9223372036854775808 ≤ b) (h1 : b ≤ 9223372036854775807) (r : W64) (hr : ∀ B : W64, b = B.toInt → doL op A B = r) : oCall Tryd.prog gs2 O (n + 3) 34 [.int .u8 op, .int .i64 A.toInt, .int .i64 b] ⟨o, nx, lg⟩ = some (.int .i64 r.toInt, ⟨o, nx, lg⟩) := by
  obtain ⟨B, hB⟩ := as_bits h0 h1
  rw [← hr B hB, hB]; exact do2_ok hO op A B
end
theorem shl_add (A : W64) {p q : Int} (hp : 0 ≤ p) (hq : 0 ≤ q) : shiftL (shiftL A p) q = shiftL A (p + q) := by
  unfold shiftL
  rw [if_neg (by omega), if_neg (by omega), if_neg (by omega), ← BitVec.shiftLeft_add, Int.toNat_add hp hq]
theorem shr_eq (A : W64) {p : Int} (hp : 0 ≤ p) : shiftL A (-p) = A >>> p.toNat := by
  unfold shiftL
  by_cases h : p = 0
  · subst h; simp
  · rw [if_pos (by omega), Int.neg_neg]
theorem shr_add (A : W64) {p q : Int} (hp : 0 ≤ p) (hq : 0 ≤ q) : shiftL (shiftL A (-p)) (-q) = shiftL A (-(p + q)) := by
  rw [shr_eq _ hq, shr_eq _ hp, shr_eq _ (by omega), Int.toNat_add hp hq, BitVec.shiftRight_add]
theorem shl_next (A : W64) (i : Nat) : shiftL A (Int.ofNat i) * 2#64 = shiftL A (Int.ofNat (i + 1)) := by
  unfold shiftL
  rw [if_neg (by simp), if_neg (by simp; omega)]
  show A <<< i * 2#64 = A <<< (i + 1)
  apply BitVec.eq_of_toNat_eq
  simp only [BitVec.toNat_mul, BitVec.toNat_shiftLeft, Nat.shiftLeft_eq, Nat.pow_succ, BitVec.toNat_ofNat]
  simp [Nat.mul_assoc]
end Go.Proofs.YtpncjpgjmpemiaaDoor
