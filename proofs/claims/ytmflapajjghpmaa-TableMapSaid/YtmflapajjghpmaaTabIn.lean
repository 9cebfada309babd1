/- Table: how it lies, with its blocks named; New; what plain tells. -/
import Derived.Test.YtmflapajjghpmaaTabLen
namespace Go.Proofs.Ytmflapajjghpmaa
open Go.RowKit
set_option linter.unusedSimpArgs false
set_option linter.unusedVariables false

structure TabIn (o : Tr AObj) (nx i m : Nat) (a : Option Nat) (l : List (VV × VV)) : Prop where
  lt : i < nx
  ltm : m < nx
  ne : m ≠ i
  row : ∃ z, o.get i = some (.row [.slice (a.map fun j => ⟨j, 0, none⟩) l.length 0, .map (some m)] 56 z true)
  ents : ∃ es c, o.get m = some (.map es c) ∧ MapIs vv es (kvFrom 0 l)
  cells : (a = none ∧ l = []) ∨ ∃ j rest, a = some j ∧ j < nx ∧ j ≠ i ∧ j ≠ m ∧ o.get j = some (.row (cellsOf l ++ rest) 127 4 true)
  nodup : (l.map Prod.fst).Nodup
theorem TabIn.at {o : Tr AObj} {nx i m : Nat} {a : Option Nat} {l : List (VV × VV)} (h : TabIn o nx i m a l) : TabAt o nx i l := by
  obtain ⟨z, hr⟩ := h.row
  refine ⟨h.lt, _, m, z, hr, h.ltm, h.ne, h.ents, ?_⟩
  rcases h.cells with ⟨rfl, rfl⟩ | ⟨j, rest, rfl, h1, h2, h3, h4⟩
  · exact .inl ⟨rfl, rfl⟩
  · exact .inr ⟨j, rest, rfl, h1, h2, h3, h4⟩
/-- a block of the table's -/
def Mine (i m : Nat) (a : Option Nat) (b : Nat) : Prop := b = i ∨ b = m ∨ a = some b
theorem TabIn.keep {o o' : Tr AObj} {nx nx' i m : Nat} {a : Option Nat} {l : List (VV × VV)} (h : TabIn o nx i m a l) (hn : nx ≤ nx') (hk : ∀ b, Mine i m a b → o'.get b = o.get b) : TabIn o' nx' i m a l := by
  obtain ⟨z, hr⟩ := h.row
  obtain ⟨es, c, he, hm⟩ := h.ents
  refine ⟨Nat.lt_of_lt_of_le h.lt hn, Nat.lt_of_lt_of_le h.ltm hn, h.ne, ⟨z, (hk i (.inl rfl)).trans hr⟩, ⟨es, c, (hk m (.inr (.inl rfl))).trans he, hm⟩, ?_, h.nodup⟩
  rcases h.cells with h1 | ⟨j, rest, rfl, h1, h2, h3, h4⟩
  · exact .inl h1
  · exact .inr ⟨j, rest, rfl, Nat.lt_of_lt_of_le h1 hn, h2, h3, (hk j (.inr (.inr rfl))).trans h4⟩
theorem TabIn.mine_lt {o : Tr AObj} {nx i m : Nat} {a : Option Nat} {l : List (VV × VV)} (h : TabIn o nx i m a l) {b : Nat} (hb : Mine i m a b) : b < nx := by
  rcases hb with rfl | rfl | hb
  · exact h.lt
  · exact h.ltm
  · rcases h.cells with ⟨rfl, _⟩ | ⟨j, rest, rfl, h1, _⟩
    · cases hb
    · cases hb; exact h1
/-- new things beside it -/
theorem TabIn.more {o o' : Tr AObj} {nx nx' i m : Nat} {a : Option Nat} {l : List (VV × VV)} (h : TabIn o nx i m a l) (hn : nx ≤ nx') (hk : ∀ b, b < nx → o'.get b = o.get b) : TabIn o' nx' i m a l := h.keep hn fun b hb => hk b (h.mine_lt hb)

theorem leave_loud {o o' : Tr AObj} {nx nx' : Nat} {lg l : List Nat} {v : Value} (h : (l.all (fun i => Nat.ble nx i) && lowV nx v) = false) : ∃ lg', leave ⟨o, nx, lg⟩ v ⟨o', nx', l⟩ = (v, ⟨o', nx', lg'⟩) := by
  unfold leave
  simp only [h, cond]
  exact ⟨_, rfl⟩
theorem ble_old {i nx : Nat} (h : i < nx) : Nat.ble nx i = false := by
  cases e : Nat.ble nx i with
  | false => rfl
  | true => rw [Nat.ble_eq] at e; omega
theorem blt_new {i nx : Nat} (h : nx ≤ i) : Nat.blt i nx = false := by
  cases e : Nat.blt i nx with
  | false => rfl
  | true => rw [Nat.blt_eq] at e; omega

section
variable {O : Helps} {n : Nat} {o : Tr AObj} {nx : Nat} {lg : List Nat}
theorem new_tab (hO : Clear O) : Got (oCall Try.prog [] O (n + 1) 22 [] ⟨o, nx, lg⟩) fun r => ∃ o' lg', r = (.pointer (some ⟨nx + 3, 0, none⟩), ⟨o', nx + 5, lg'⟩) ∧ TabIn o' (nx + 5) (nx + 3) (nx + 1) none [] ∧ ∀ b, b < nx → o'.get b = o.get b := by
  rw [y_fn (rs := [.tmp 0]) (hO _ (by decide)) Try.func22 rfl (by kernel_rfl) rfl rfl]
  simp (maxDischargeDepth := 6) only [y_seq, y_region, y_cond, y_skip, y_ret, y_exit, y_label, y_block, y_scope, onTo_on, onTo_out, onTo_back, outOf_on, outOf_back, outOf_out, inScope_on, inScope_back, y_nil, y_op, y_guard, want_eq, y_draw, yd_nil, yd_op, relogL_nil, calm_nil, calm_pure_r, calm_cons, clash_pure_r, clash_pure_l, clash_ll, clash_lf, clash_fl, clash_ff, clash_lo, clash_ol, clash_fo, clash_of, clash_oo, List.any_nil, beq_self, List.isEmpty_nil, Bool.true_or, Bool.or_true, classOf, st_move, st_assign, st_pick, st_alloc, st_box, st_buildV, st_load, st_store, st_nilCheck, st_field, st_extract, st_makeFunc, st_makeMap, st_fieldAddr, st_binOp, st_lookup, st_call, st_mapUpdate, st_insert, aEval_tmp, aEval_const, aEval_func, putE_some, putE_none, get_put_same, get_put_ne, Tr.get_nil, argsEnv, heap_get, heap_upd, heap_add, new_row, got_some, got_none, got_map, got_bind, boolOf, someRef, addOff, tupleAt, isC, fnEnd_on, fnEnd_back, fnEnd_out, res_nil, res_tmp, res_cell, oneOf_one, oneOf_two, oneOf_three, oneOf_nil, rowAt, Option.getD_some, Option.getD_none, Option.bind_some, Option.bind_none, Option.map_some, Option.map_none, ↓c_true, ↓c_false, List.length_cons, List.length_nil, List.getElem?_cons_succ, List.getElem?_cons_zero, Nat.reduceAdd, Nat.reduceEqDiff, ne_eq, not_false_eq_true, Nat.add_zero, Nat.zero_add, Nat.add_assoc, List.map_cons, List.map_nil, List.nil_append, List.append_nil, List.cons_append, Bool.not_true, Bool.not_false, ne_new, ne_new0, new_ne, new_ne0, self_ne, self_ne', Nat.add_left_cancel_iff, all_note, List.all_nil, ble_self, ble_add, Bool.and_self, Bool.and_true, Bool.true_and, true_and, and_true, b_add, b_sub, b_mul, b_lss, b_leq, b_gtr, b_geq, b_eql, b_neq, store_nil, store_cons, ownRow, oneV_int, oneV_bool, oneV_string, oneV_ptr, oneV_map, oneV_slice, cells_int, cells_bool, cells_string, cells_ptr, cells_map, cells_slice, cells_agg, low_int, low_bool, low_string, low_unit, low_vv, cut_two, leave_quiet, List.set_cons_zero, List.set_cons_succ, Nat.reduceLT, and_self, if_true, ite_true, List.size_toArray, Nat.lt_add_one, Nat.zero_lt_succ, List.getElem?_toArray, st_lenV, st_unOp, unV_not, cast_of, cut_one, cut_three, cut_four, cut_five, cut_six, st_slice, isSl_slice, Int.reduceLE, Int.reduceLT, Int.reduceEq, Int.reduceNeg, Int.reduceAdd, decide_true, decide_false, lt_new, any_note, isEmpty_note, beq_new, beq_new0, beq_add, Bool.or_false, Bool.false_or, Bool.false_and, Bool.and_false, Bool.or_self, st_indexS, st_sliceS, isStr_str, st_convI, isInt_int, b_eqlS, b_neqS, b_and, b_or, b_xor, b_shl, b_shr, unV_neg, unV_xor, low_str, low_ii, low_ib, low_bi, low_si, low_sb, ofNat_ge, toNat_of, ofNat_lt, ofNat_le, ofNat_eq, byte_eq, size_str, y_app, lenL_nil, lenL_cons, lenL_app, dstAt_zero, dstAt_succ, dstAt_app, Nat.reduceSub, if_false, ite_false, bu_56_1]
  obtain ⟨lg', e⟩ := leave_loud (o := o) (o' := (o.put (nx + 1) (some (.map [] 0))).put (nx + 3) (some (.row [.slice none 0 0, .map (some (nx + 1))] 56 0 true))) (nx := nx) (nx' := nx + 5) (lg := lg) (l := []) (v := .pointer (some ⟨nx + 3, 0, none⟩)) (by
    show Nat.blt (nx + 3) nx = false
    exact blt_new (by omega))
  refine ⟨_, lg', e, ⟨by omega, by omega, by omega, ⟨0, ?_⟩, ⟨[], 0, ?_, rfl⟩, .inl ⟨rfl, rfl⟩, List.nodup_nil⟩, fun b hb => ?_⟩
  · rw [get_put_same]; rfl
  · rw [get_put_ne _ _ _ _ (by omega), get_put_same]
  · rw [get_put_ne _ _ _ _ (by omega), get_put_ne _ _ _ _ (by omega)]
def plainB (v : VV) : Bool := decide (2 < v.1) || decide (v.2 = 0)
theorem plain_ok (hO : Clear O) (v : VV) : oCall Try.prog [] O (n + 1) 86 [vv v] ⟨o, nx, lg⟩ = some (.bool (plainB v), ⟨o, nx, lg⟩) := by
  refine of_got ?_
  rw [y_fn (rs := [.tmp 2]) (hO _ (by decide)) Try.func86 rfl (by kernel_rfl) rfl rfl]
  unfold plainB
  by_cases h : 2 < v.1
  · simp (maxDischargeDepth := 6) only [y_seq, y_region, y_cond, y_skip, y_ret, y_exit, y_label, y_block, y_scope, onTo_on, onTo_out, onTo_back, outOf_on, outOf_back, outOf_out, inScope_on, inScope_back, y_nil, y_op, y_guard, want_eq, y_draw, yd_nil, yd_op, relogL_nil, calm_nil, calm_pure_r, calm_cons, clash_pure_r, clash_pure_l, clash_ll, clash_lf, clash_fl, clash_ff, clash_lo, clash_ol, clash_fo, clash_of, clash_oo, List.any_nil, beq_self, List.isEmpty_nil, Bool.true_or, Bool.or_true, classOf, st_move, st_assign, st_pick, st_alloc, st_box, st_buildV, st_load, st_store, st_nilCheck, st_field, st_extract, st_makeFunc, st_makeMap, st_fieldAddr, st_binOp, st_lookup, st_call, st_mapUpdate, st_insert, aEval_tmp, aEval_const, aEval_func, putE_some, putE_none, get_put_same, get_put_ne, Tr.get_nil, argsEnv, heap_get, heap_upd, heap_add, new_row, got_some, got_none, got_map, got_bind, boolOf, someRef, addOff, tupleAt, isC, fnEnd_on, fnEnd_back, fnEnd_out, res_nil, res_tmp, res_cell, oneOf_one, oneOf_two, oneOf_three, oneOf_nil, rowAt, Option.getD_some, Option.getD_none, Option.bind_some, Option.bind_none, Option.map_some, Option.map_none, ↓c_true, ↓c_false, List.length_cons, List.length_nil, List.getElem?_cons_succ, List.getElem?_cons_zero, Nat.reduceAdd, Nat.reduceEqDiff, ne_eq, not_false_eq_true, Nat.add_zero, Nat.zero_add, Nat.add_assoc, List.map_cons, List.map_nil, List.nil_append, List.append_nil, List.cons_append, Bool.not_true, Bool.not_false, ne_new, ne_new0, new_ne, new_ne0, self_ne, self_ne', Nat.add_left_cancel_iff, all_note, List.all_nil, ble_self, ble_add, Bool.and_self, Bool.and_true, Bool.true_and, true_and, and_true, b_add, b_sub, b_mul, b_lss, b_leq, b_gtr, b_geq, b_eql, b_neq, store_nil, store_cons, ownRow, oneV_int, oneV_bool, oneV_string, oneV_ptr, oneV_map, oneV_slice, cells_int, cells_bool, cells_string, cells_ptr, cells_map, cells_slice, cells_agg, low_int, low_bool, low_string, low_unit, low_vv, cut_two, leave_quiet, List.set_cons_zero, List.set_cons_succ, Nat.reduceLT, and_self, if_true, ite_true, List.size_toArray, Nat.lt_add_one, Nat.zero_lt_succ, List.getElem?_toArray, st_lenV, st_unOp, unV_not, cast_of, cut_one, cut_three, cut_four, cut_five, cut_six, st_slice, isSl_slice, Int.reduceLE, Int.reduceLT, Int.reduceEq, Int.reduceNeg, Int.reduceAdd, decide_true, decide_false, lt_new, any_note, isEmpty_note, beq_new, beq_new0, beq_add, Bool.or_false, Bool.false_or, Bool.false_and, Bool.and_false, Bool.or_self, st_indexS, st_sliceS, isStr_str, st_convI, isInt_int, b_eqlS, b_neqS, b_and, b_or, b_xor, b_shl, b_shr, unV_neg, unV_xor, low_str, low_ii, low_ib, low_bi, low_si, low_sb, ofNat_ge, toNat_of, ofNat_lt, ofNat_le, ofNat_eq, byte_eq, size_str, y_app, lenL_nil, lenL_cons, lenL_app, dstAt_zero, dstAt_succ, dstAt_app, Nat.reduceSub, if_false, ite_false, fo_40_0, aLoad_one ld_38, fo_40_1, aLoad_one ld_2, vv, decide_eq_true h]
    try exact leave_quiet (by simp only [all_relogL, all_note, ble_add, List.all_nil, ble_self, Bool.and_self]) (by rfl)
  · simp (maxDischargeDepth := 6) only [y_seq, y_region, y_cond, y_skip, y_ret, y_exit, y_label, y_block, y_scope, onTo_on, onTo_out, onTo_back, outOf_on, outOf_back, outOf_out, inScope_on, inScope_back, y_nil, y_op, y_guard, want_eq, y_draw, yd_nil, yd_op, relogL_nil, calm_nil, calm_pure_r, calm_cons, clash_pure_r, clash_pure_l, clash_ll, clash_lf, clash_fl, clash_ff, clash_lo, clash_ol, clash_fo, clash_of, clash_oo, List.any_nil, beq_self, List.isEmpty_nil, Bool.true_or, Bool.or_true, classOf, st_move, st_assign, st_pick, st_alloc, st_box, st_buildV, st_load, st_store, st_nilCheck, st_field, st_extract, st_makeFunc, st_makeMap, st_fieldAddr, st_binOp, st_lookup, st_call, st_mapUpdate, st_insert, aEval_tmp, aEval_const, aEval_func, putE_some, putE_none, get_put_same, get_put_ne, Tr.get_nil, argsEnv, heap_get, heap_upd, heap_add, new_row, got_some, got_none, got_map, got_bind, boolOf, someRef, addOff, tupleAt, isC, fnEnd_on, fnEnd_back, fnEnd_out, res_nil, res_tmp, res_cell, oneOf_one, oneOf_two, oneOf_three, oneOf_nil, rowAt, Option.getD_some, Option.getD_none, Option.bind_some, Option.bind_none, Option.map_some, Option.map_none, ↓c_true, ↓c_false, List.length_cons, List.length_nil, List.getElem?_cons_succ, List.getElem?_cons_zero, Nat.reduceAdd, Nat.reduceEqDiff, ne_eq, not_false_eq_true, Nat.add_zero, Nat.zero_add, Nat.add_assoc, List.map_cons, List.map_nil, List.nil_append, List.append_nil, List.cons_append, Bool.not_true, Bool.not_false, ne_new, ne_new0, new_ne, new_ne0, self_ne, self_ne', Nat.add_left_cancel_iff, all_note, List.all_nil, ble_self, ble_add, Bool.and_self, Bool.and_true, Bool.true_and, true_and, and_true, b_add, b_sub, b_mul, b_lss, b_leq, b_gtr, b_geq, b_eql, b_neq, store_nil, store_cons, ownRow, oneV_int, oneV_bool, oneV_string, oneV_ptr, oneV_map, oneV_slice, cells_int, cells_bool, cells_string, cells_ptr, cells_map, cells_slice, cells_agg, low_int, low_bool, low_string, low_unit, low_vv, cut_two, leave_quiet, List.set_cons_zero, List.set_cons_succ, Nat.reduceLT, and_self, if_true, ite_true, List.size_toArray, Nat.lt_add_one, Nat.zero_lt_succ, List.getElem?_toArray, st_lenV, st_unOp, unV_not, cast_of, cut_one, cut_three, cut_four, cut_five, cut_six, st_slice, isSl_slice, Int.reduceLE, Int.reduceLT, Int.reduceEq, Int.reduceNeg, Int.reduceAdd, decide_true, decide_false, lt_new, any_note, isEmpty_note, beq_new, beq_new0, beq_add, Bool.or_false, Bool.false_or, Bool.false_and, Bool.and_false, Bool.or_self, st_indexS, st_sliceS, isStr_str, st_convI, isInt_int, b_eqlS, b_neqS, b_and, b_or, b_xor, b_shl, b_shr, unV_neg, unV_xor, low_str, low_ii, low_ib, low_bi, low_si, low_sb, ofNat_ge, toNat_of, ofNat_lt, ofNat_le, ofNat_eq, byte_eq, size_str, y_app, lenL_nil, lenL_cons, lenL_app, dstAt_zero, dstAt_succ, dstAt_app, Nat.reduceSub, if_false, ite_false, fo_40_0, aLoad_one ld_38, fo_40_1, aLoad_one ld_2, vv, decide_eq_false h]
    try exact leave_quiet (by simp only [all_relogL, all_note, ble_add, List.all_nil, ble_self, Bool.and_self]) (by rfl)
end
end Go.Proofs.Ytmflapajjghpmaa
