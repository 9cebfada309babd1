/- Ints: the school's laws on sums, products, quotients and rests. -/
import Derived.Test.YtpncjpgjmpemiaaDoorIntsFn
import Derived.Test.YtpncjpgjmpemiaaDoorIntsAwake
namespace Go.Proofs.YtpncjpgjmpemiaaDoor
open Go.RowKit
set_option linter.unusedSimpArgs false
set_option linter.unusedVariables false

/-- the three variables, as the machine has them -/
structure G2 (o : Tr AObj) (nx : Nat) : Prop where
  tab : ∀ lg, hasTab ⟨o, nx, lg⟩ = true
  errS : ∀ lg, hasErr 2 ⟨o, nx, lg⟩ = true
  errR : ∀ lg, hasErr 3 ⟨o, nx, lg⟩ = true
  low : 1000 ≤ nx
theorem G2.put {o : Tr AObj} {nx nx' i : Nat} {x : Option AObj} (h : G2 o nx) (hi : 1000 ≤ i) (hn : nx ≤ nx') : G2 (o.put i x) nx' := by
  have e : ∀ g, g < 1000 → (o.put i x).get g = o.get g := fun g hg => get_put_ne _ _ _ _ (by omega)
  have h1 := h.tab []; have h2 := h.errS []; have h3 := h.errR []
  unfold hasTab at h1; unfold hasErr at h2 h3
  simp only [heap_get] at h1 h2 h3
  refine ⟨fun lg => ?_, fun lg => ?_, fun lg => ?_, Nat.le_trans h.low hn⟩
  · unfold hasTab; simp only [heap_get, e _ (by omega : 1 < 1000)]; exact h1
  · unfold hasErr; simp only [heap_get, e _ (by omega : 2 < 1000)]; exact h2
  · unfold hasErr; simp only [heap_get, e _ (by omega : 3 < 1000)]; exact h3
theorem G2.more {o : Tr AObj} {nx nx' : Nat} (h : G2 o nx) (hn : nx ≤ nx') : G2 o nx' :=
  ⟨fun lg => h.tab lg, fun lg => h.errS lg, fun lg => h.errR lg, Nat.le_trans h.low hn⟩
theorem G2_H0 (t te tr : TypeId) : G2 (H0 t te tr).objs (H0 t te tr).next := ⟨fun _ => by kernel_rfl, fun _ => by kernel_rfl, fun _ => by kernel_rfl, Nat.le_refl _⟩
theorem clear2 : Clear O2 := fun f hf => by
  simp only [helped, List.mem_cons, List.not_mem_nil, or_false, not_or] at hf
  have hb : ∀ k, f ≠ k → Nat.beq f k = false := fun k hk => by
    cases e : Nat.beq f k with
    | false => rfl
    | true => exact absurd (Nat.eq_of_beq_eq_true e) hk
  simp only [O2, orHelp, O1, awakeO, hb _ hf.1, hb _ hf.2.1, hb _ hf.2.2, cond]
theorem awake_ok {n : Nat} {o : Tr AObj} {nx : Nat} {lg : List Nat} (hG : G2 o nx) : oCall Tryd.prog gs2 O2 (n + 1) 27 [] ⟨o, nx, lg⟩ = some (.bool true, ⟨o, nx, lg⟩) := by
  show awakeHelp [] _ = _
  unfold awakeHelp
  rw [hG.tab, hG.errS, hG.errR]; rfl
section
variable {O : Helps} {n : Nat} {o : Tr AObj} {nx : Nat} {lg : List Nat}
def doL (op : Int) (A B : W64) : W64 := if (arithL op A B).2 = 0 then (arithL op A B).1 else 77#64
theorem do_ok (hO : Clear O) (op : Int) (A B : W64) : oCall Tryd.prog gs2 O (n + 3) 33 [.int .u8 op, .int .i64 A.toInt, .int .i64 B.toInt] ⟨o, nx, lg⟩ = some (.int .i64 (doL op A B).toInt, ⟨o, nx, lg⟩) := by
  refine of_got ?_
  rw [y_fn (rs := [.tmp 6]) (hO _ (by decide)) Tryd.func33 rfl (by kernel_rfl) rfl rfl]
  unfold doL
  by_cases h : (arithL op A B).2 = 0
  · rw [if_pos h]
    simp (maxDischargeDepth := 6) only [y_seq, y_region, y_cond, y_skip, y_ret, y_exit, y_label, y_block, y_scope, onTo_on, onTo_out, onTo_back, outOf_on, outOf_back, outOf_out, inScope_on, inScope_back, y_nil, y_op, y_guard, want_eq, y_draw, yd_nil, yd_op, relogL_nil, calm_nil, calm_pure_r, calm_cons, clash_pure_r, clash_pure_l, clash_ll, clash_lf, clash_fl, clash_ff, clash_lo, clash_ol, clash_fo, clash_of, clash_oo, List.any_nil, beq_self, List.isEmpty_nil, Bool.true_or, Bool.or_true, classOf, st_move, st_assign, st_pick, st_alloc, st_box, st_buildV, st_load, st_store, st_nilCheck, st_field, st_extract, st_makeFunc, st_makeMap, st_fieldAddr, st_binOp, st_lookup, st_call, st_mapUpdate, st_insert, aEval_tmp, aEval_const, aEval_func, putE_some, putE_none, get_put_same, get_put_ne, Tr.get_nil, argsEnv, heap_get, heap_upd, heap_add, new_row, got_some, got_none, got_map, got_bind, boolOf, someRef, addOff, tupleAt, isC, fnEnd_on, fnEnd_back, fnEnd_out, res_nil, res_tmp, res_cell, oneOf_one, oneOf_two, oneOf_three, oneOf_nil, rowAt, Option.getD_some, Option.getD_none, Option.bind_some, Option.bind_none, Option.map_some, Option.map_none, ↓c_true, ↓c_false, List.length_cons, List.length_nil, List.getElem?_cons_succ, List.getElem?_cons_zero, Nat.reduceAdd, Nat.reduceEqDiff, ne_eq, not_false_eq_true, Nat.add_zero, Nat.zero_add, Nat.add_assoc, List.map_cons, List.map_nil, List.nil_append, List.append_nil, List.cons_append, Bool.not_true, Bool.not_false, ne_new, ne_new0, new_ne, new_ne0, self_ne, self_ne', Nat.add_left_cancel_iff, all_note, List.all_nil, ble_self, ble_add, Bool.and_self, Bool.and_true, Bool.true_and, true_and, and_true, b_add, b_sub, b_mul, b_lss, b_leq, b_gtr, b_geq, b_eql, b_neq, store_nil, store_cons, ownRow, oneV_int, oneV_bool, oneV_string, oneV_ptr, oneV_map, oneV_slice, cells_int, cells_bool, cells_string, cells_ptr, cells_map, cells_slice, cells_agg, low_int, low_bool, low_string, low_unit, low_vv, cut_two, leave_quiet, List.set_cons_zero, List.set_cons_succ, Nat.reduceLT, and_self, if_true, ite_true, List.size_toArray, Nat.lt_add_one, Nat.zero_lt_succ, List.getElem?_toArray, st_lenV, st_unOp, unV_not, cast_of, cut_one, cut_three, cut_four, cut_five, cut_six, st_slice, isSl_slice, Int.reduceLE, Int.reduceLT, Int.reduceEq, Int.reduceNeg, Int.reduceAdd, decide_true, decide_false, lt_new, any_note, isEmpty_note, beq_new, beq_new0, beq_add, Bool.or_false, Bool.false_or, Bool.false_and, Bool.and_false, Bool.or_self, st_indexS, st_sliceS, isStr_str, st_convI, isInt_int, b_eqlS, b_neqS, b_and, b_or, b_xor, b_shl, b_shr, unV_neg, unV_xor, low_str, low_ii, low_ib, low_bi, low_si, low_sb, ofNat_ge, toNat_of, ofNat_lt, ofNat_le, ofNat_eq, byte_eq, size_str, y_app, lenL_nil, lenL_cons, lenL_app, dstAt_zero, dstAt_succ, dstAt_app, Nat.reduceSub, if_false, ite_false, calleeV_func _ _ _ co_23, arith_ok hO op A B, decide_eq_true h]
    try exact leave_quiet (by rfl) (by rfl)
  · rw [if_neg h]
    simp (maxDischargeDepth := 6) only [y_seq, y_region, y_cond, y_skip, y_ret, y_exit, y_label, y_block, y_scope, onTo_on, onTo_out, onTo_back, outOf_on, outOf_back, outOf_out, inScope_on, inScope_back, y_nil, y_op, y_guard, want_eq, y_draw, yd_nil, yd_op, relogL_nil, calm_nil, calm_pure_r, calm_cons, clash_pure_r, clash_pure_l, clash_ll, clash_lf, clash_fl, clash_ff, clash_lo, clash_ol, clash_fo, clash_of, clash_oo, List.any_nil, beq_self, List.isEmpty_nil, Bool.true_or, Bool.or_true, classOf, st_move, st_assign, st_pick, st_alloc, st_box, st_buildV, st_load, st_store, st_nilCheck, st_field, st_extract, st_makeFunc, st_makeMap, st_fieldAddr, st_binOp, st_lookup, st_call, st_mapUpdate, st_insert, aEval_tmp, aEval_const, aEval_func, putE_some, putE_none, get_put_same, get_put_ne, Tr.get_nil, argsEnv, heap_get, heap_upd, heap_add, new_row, got_some, got_none, got_map, got_bind, boolOf, someRef, addOff, tupleAt, isC, fnEnd_on, fnEnd_back, fnEnd_out, res_nil, res_tmp, res_cell, oneOf_one, oneOf_two, oneOf_three, oneOf_nil, rowAt, Option.getD_some, Option.getD_none, Option.bind_some, Option.bind_none, Option.map_some, Option.map_none, ↓c_true, ↓c_false, List.length_cons, List.length_nil, List.getElem?_cons_succ, List.getElem?_cons_zero, Nat.reduceAdd, Nat.reduceEqDiff, ne_eq, not_false_eq_true, Nat.add_zero, Nat.zero_add, Nat.add_assoc, List.map_cons, List.map_nil, List.nil_append, List.append_nil, List.cons_append, Bool.not_true, Bool.not_false, ne_new, ne_new0, new_ne, new_ne0, self_ne, self_ne', Nat.add_left_cancel_iff, all_note, List.all_nil, ble_self, ble_add, Bool.and_self, Bool.and_true, Bool.true_and, true_and, and_true, b_add, b_sub, b_mul, b_lss, b_leq, b_gtr, b_geq, b_eql, b_neq, store_nil, store_cons, ownRow, oneV_int, oneV_bool, oneV_string, oneV_ptr, oneV_map, oneV_slice, cells_int, cells_bool, cells_string, cells_ptr, cells_map, cells_slice, cells_agg, low_int, low_bool, low_string, low_unit, low_vv, cut_two, leave_quiet, List.set_cons_zero, List.set_cons_succ, Nat.reduceLT, and_self, if_true, ite_true, List.size_toArray, Nat.lt_add_one, Nat.zero_lt_succ, List.getElem?_toArray, st_lenV, st_unOp, unV_not, cast_of, cut_one, cut_three, cut_four, cut_five, cut_six, st_slice, isSl_slice, Int.reduceLE, Int.reduceLT, Int.reduceEq, Int.reduceNeg, Int.reduceAdd, decide_true, decide_false, lt_new, any_note, isEmpty_note, beq_new, beq_new0, beq_add, Bool.or_false, Bool.false_or, Bool.false_and, Bool.and_false, Bool.or_self, st_indexS, st_sliceS, isStr_str, st_convI, isInt_int, b_eqlS, b_neqS, b_and, b_or, b_xor, b_shl, b_shr, unV_neg, unV_xor, low_str, low_ii, low_ib, low_bi, low_si, low_sb, ofNat_ge, toNat_of, ofNat_lt, ofNat_le, ofNat_eq, byte_eq, size_str, y_app, lenL_nil, lenL_cons, lenL_app, dstAt_zero, dstAt_succ, dstAt_app, Nat.reduceSub, if_false, ite_false, calleeV_func _ _ _ co_23, arith_ok hO op A B, decide_eq_false h]
    try exact leave_quiet (by rfl) (by rfl)
theorem do_lit {hO : Clear O} (op : Int) (A B : W64) (b : Int) (hb : b = B.toInt) (r : W64) (hr : doL op A B = r) : oCall Tryd.prog gs2 O (n + 3) 33 [.int .u8 op, .int .i64 A.toInt, .int .i64 b] ⟨o, nx, lg⟩ = some (.int .i64 r.toInt, ⟨o, nx, lg⟩) := by
  subst hb hr; exact do_ok hO op A B
end
end Go.Proofs.YtpncjpgjmpemiaaDoor
