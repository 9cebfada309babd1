/- Table: how it lies in the abstract memory; Get. -/
import Derived.Test.YtmflapajjghpmaaTabEq
namespace Go.Proofs.Ytmflapajjghpmaa
open Go.RowKit
set_option linter.unusedSimpArgs false

/-- a table's places, as cells -/
def cellsOf (l : List (VV × VV)) : List Value := l.flatMap fun p => [.int .u8 p.1.1, .int .i64 p.1.2, .int .u8 p.2.1, .int .i64 p.2.2]
/-- where each key is -/
def kvFrom : Nat → List (VV × VV) → List (VV × Value)
  | _, [] => []
  | i, p :: l => (p.1, .int .i64 (.ofNat i)) :: kvFrom (i + 1) l
structure TabAt (o : Tr AObj) (nx i : Nat) (l : List (VV × VV)) : Prop where
  lt : i < nx
  row : ∃ s m z, o.get i = some (.row [s, .map (some m)] 56 z true) ∧ m < nx ∧ m ≠ i ∧ (∃ es c, o.get m = some (.map es c) ∧ MapIs vv es (kvFrom 0 l)) ∧
    ((s = .slice none 0 0 ∧ l = []) ∨ ∃ j rest, s = .slice (some ⟨j, 0, none⟩) l.length 0 ∧ j < nx ∧ j ≠ i ∧ j ≠ m ∧ o.get j = some (.row (cellsOf l ++ rest) 127 4 true))

theorem right_ok {O : Helps} (hO : Clear O) {n : Nat} {o : Tr AObj} {nx : Nat} {lg : List Nat} {i m : Nat} {sl : Value} {e z : Nat} {own : Bool} (h : o.get i = some (.row [sl, .map (some m)] e z own)) :
    oCall Try.prog [] O (n + 1) 85 [.pointer (some ⟨i, 0, none⟩)] ⟨o, nx, lg⟩ = some (.bool true, ⟨o, nx, lg⟩) := by
  have : Got (oCall Try.prog [] O (n + 1) 85 [.pointer (some ⟨i, 0, none⟩)] ⟨o, nx, lg⟩) fun r => r = (.bool true, ⟨o, nx, lg⟩) := by
    have fo : fieldOff Try.prog 56 1 = some 1 := by kernel_rfl
    have sz : aggSize Try.prog 54 = some none := by kernel_rfl
    rw [y_fn (rs := [.tmp 2]) (hO _ (by decide)) Try.func85 rfl (by kernel_rfl) rfl rfl]
    simp (maxDischargeDepth := 6) only [y_seq, y_region, y_cond, y_skip, y_ret, y_exit, y_label, y_block, y_scope, onTo_on, onTo_out, onTo_back, outOf_on, outOf_back, outOf_out, inScope_on, inScope_back, y_nil, y_op, y_guard, want_eq, y_draw, yd_nil, yd_op, relogL_nil, calm_nil, calm_pure_r, calm_cons, clash_pure_r, clash_pure_l, clash_ll, clash_lf, clash_fl, clash_ff, clash_lo, clash_ol, clash_fo, clash_of, clash_oo, List.any_nil, beq_self, List.isEmpty_nil, Bool.true_or, Bool.or_true, classOf, st_move, st_assign, st_pick, st_alloc, st_box, st_buildV, st_load, st_store, st_nilCheck, st_field, st_extract, st_makeFunc, st_makeMap, st_fieldAddr, st_binOp, st_lookup, st_call, st_mapUpdate, st_insert, aEval_tmp, aEval_const, aEval_func, putE_some, putE_none, get_put_same, get_put_ne, Tr.get_nil, argsEnv, heap_get, heap_upd, heap_add, new_row, got_some, got_none, got_map, got_bind, boolOf, someRef, addOff, tupleAt, isC, fnEnd_on, fnEnd_back, fnEnd_out, res_nil, res_tmp, res_cell, oneOf_one, oneOf_two, oneOf_three, oneOf_nil, rowAt, Option.getD_some, Option.getD_none, Option.bind_some, Option.bind_none, Option.map_some, Option.map_none, ↓c_true, ↓c_false, List.length_cons, List.length_nil, List.getElem?_cons_succ, List.getElem?_cons_zero, Nat.reduceAdd, Nat.reduceEqDiff, ne_eq, not_false_eq_true, Nat.add_zero, Nat.zero_add, Nat.add_assoc, List.map_cons, List.map_nil, List.nil_append, List.append_nil, List.cons_append, Bool.not_true, Bool.not_false, ne_new, ne_new0, new_ne, new_ne0, self_ne, self_ne', Nat.add_left_cancel_iff, all_note, List.all_nil, ble_self, ble_add, Bool.and_self, Bool.and_true, Bool.true_and, true_and, and_true, b_add, b_sub, b_mul, b_lss, b_leq, b_gtr, b_geq, b_eql, b_neq, store_nil, store_cons, ownRow, oneV_int, oneV_bool, oneV_string, oneV_ptr, oneV_map, oneV_slice, cells_int, cells_bool, cells_string, cells_ptr, cells_map, cells_slice, cells_agg, low_int, low_bool, low_string, low_unit, low_vv, cut_two, leave_quiet, List.set_cons_zero, List.set_cons_succ, Nat.reduceLT, and_self, if_true, ite_true, List.size_toArray, Nat.lt_add_one, Nat.zero_lt_succ, List.getElem?_toArray, st_lenV, st_unOp, unV_not, cast_of, cut_one, cut_three, cut_four, cut_five, cut_six, st_slice, isSl_slice, Int.reduceLE, Int.reduceLT, Int.reduceEq, Int.reduceNeg, Int.reduceAdd, decide_true, decide_false, lt_new, any_note, isEmpty_note, beq_new, beq_new0, beq_add, Bool.or_false, Bool.false_or, Bool.false_and, Bool.and_false, Bool.or_self, st_indexS, st_sliceS, isStr_str, st_convI, isInt_int, b_eqlS, b_neqS, b_and, b_or, b_xor, b_shl, b_shr, unV_neg, unV_xor, low_str, low_ii, low_ib, low_bi, low_si, low_sb, ofNat_ge, toNat_of, ofNat_lt, ofNat_le, ofNat_eq, byte_eq, size_str, y_app, lenL_nil, lenL_cons, lenL_app, dstAt_zero, dstAt_succ, dstAt_app, Nat.reduceSub, if_false, ite_false, fo, h, aLoad_one sz, b_neq_ptr Try.underlying35, b_neq_map Try.underlying54]
    exact leave_quiet rfl rfl
  obtain ⟨a, h1, rfl⟩ := this
  exact h1

def getL (l : List (VV × VV)) (k : VV) : VV := match l.find? (fun p => p.1 = k) with
  | some p => p.2
  | none => (0, 0)
theorem kv_find (k : VV) : ∀ (l : List (VV × VV)) (b i : Nat), (findK k (kvFrom b l) i = none ∧ l.find? (fun p => p.1 = k) = none) ∨ ∃ r v, l[r]? = some (k, v) ∧ findK k (kvFrom b l) i = some (i + r, .int .i64 (.ofNat (b + r))) ∧ l.find? (fun p => p.1 = k) = some (k, v)
  | [], b, i => .inl ⟨rfl, rfl⟩
  | p :: l, b, i => by
    by_cases e : p.1 = k
    · refine .inr ⟨0, p.2, by simp [← e], ?_, ?_⟩
      · simp only [kvFrom, findK, e, if_true, Nat.add_zero]
      · rw [List.find?_cons_of_pos (by simp [e])]; rw [← e]
    · rcases kv_find k l (b + 1) (i + 1) with ⟨h1, h2⟩ | ⟨r, v, h1, h2, h3⟩
      · refine .inl ⟨?_, ?_⟩
        · simp only [kvFrom, findK]; rw [if_neg (fun h => e h.symm)]; exact h1
        · rw [List.find?_cons_of_neg (by simp [e])]; exact h2
      · refine .inr ⟨r + 1, v, by simpa using h1, ?_, ?_⟩
        · simp only [kvFrom, findK]; rw [if_neg (fun h => e h.symm), h2]
          rw [show i + 1 + r = i + (r + 1) from by omega, show b + 1 + r = b + (r + 1) from by omega]
        · rw [List.find?_cons_of_neg (by simp [e])]; exact h3
theorem cells_len (l : List (VV × VV)) : (cellsOf l).length = l.length * 4 := by
  induction l with
  | nil => rfl
  | cons p l ih => simp only [cellsOf, List.flatMap_cons, List.length_append, List.length_cons, List.length_nil] at ih ⊢; omega
theorem cells_split {l : List (VV × VV)} {r : Nat} {p : VV × VV} (h : l[r]? = some p) : cellsOf l = cellsOf (l.take r) ++ ([.int .u8 p.1.1, .int .i64 p.1.2, .int .u8 p.2.1, .int .i64 p.2.2] ++ cellsOf (l.drop (r + 1))) := by
  have hr := (List.getElem?_eq_some_iff.1 h).1
  have e : l = l.take r ++ (p :: l.drop (r + 1)) := by
    conv => lhs; rw [← List.take_append_drop r l, List.drop_eq_getElem_cons hr]
    rw [(List.getElem?_eq_some_iff.1 h).2]
  conv => lhs; rw [e]
  simp only [cellsOf, List.flatMap_append, List.flatMap_cons]
theorem cut_value {l : List (VV × VV)} {r : Nat} {p : VV × VV} (h : l[r]? = some p) (rest : List Value) : cut (cellsOf l ++ rest) (r * 4 + 2) 2 = some [.int .u8 p.2.1, .int .i64 p.2.2] := by
  have hr := (List.getElem?_eq_some_iff.1 h).1
  refine cut_in rfl (cellsOf (l.take r) ++ [.int .u8 p.1.1, .int .i64 p.1.2]) (cellsOf (l.drop (r + 1)) ++ rest) ?_ ?_
  · simp only [List.length_append, cells_len, List.length_take, List.length_cons, List.length_nil]; omega
  · rw [cells_split h]; simp
theorem cut_key {l : List (VV × VV)} {r : Nat} {p : VV × VV} (h : l[r]? = some p) (rest : List Value) : cut (cellsOf l ++ rest) (r * 4) 2 = some [.int .u8 p.1.1, .int .i64 p.1.2] := by
  have hr := (List.getElem?_eq_some_iff.1 h).1
  refine cut_in rfl (cellsOf (l.take r)) ([.int .u8 p.2.1, .int .i64 p.2.2] ++ (cellsOf (l.drop (r + 1)) ++ rest)) ?_ ?_
  · simp only [cells_len, List.length_take]; omega
  · rw [cells_split h]; simp

theorem get_ok {O : Helps} (hO : Clear O) {n : Nat} {o : Tr AObj} {nx : Nat} {lg : List Nat} {i : Nat} {l : List (VV × VV)} (h : TabAt o nx i l) (k : VV) :
    oCall Try.prog [] O (n + 2) 27 [.pointer (some ⟨i, 0, none⟩), vv k] ⟨o, nx, lg⟩ = some (vv (getL l k), ⟨o, nx, lg⟩) := by
  obtain ⟨hi, s, m, z, hr, hm, hmi, ⟨es, c, he, hmap⟩, hs⟩ := h
  have : Got (oCall Try.prog [] O (n + 2) 27 [.pointer (some ⟨i, 0, none⟩), vv k] ⟨o, nx, lg⟩) fun r => r = (vv (getL l k), ⟨o, nx, lg⟩) := by
    have fo : fieldOff Try.prog 56 1 = some 1 := by kernel_rfl
    have fo0 : fieldOff Try.prog 56 0 = some 0 := by kernel_rfl
    have fo1 : fieldOff Try.prog 127 1 = some 2 := by kernel_rfl
    have sz : aggSize Try.prog 54 = some none := by kernel_rfl
    have sz0 : aggSize Try.prog 53 = some none := by kernel_rfl
    have sz1 : aggSize Try.prog 40 = some (some 2) := by kernel_rfl
    have st1 : sizeT Try.prog 40 = some 2 := by kernel_rfl
    have ze : zeroOf Try.prog 40 = some (.agg #[.int .u8 0, .int .i64 0]) := by kernel_rfl
    have zi : zeroOf Try.prog 3 = some (.int .i64 0) := by kernel_rfl
    have bu : buildV Try.prog 40 [] = some (.agg #[.int .u8 0, .int .i64 0]) := by kernel_rfl
    have el : elemOf Try.prog 53 = some (none, 4) := by kernel_rfl
    have co : codeOf Try.prog 85 = true := by kernel_rfl
    have hr' : ∀ x y : Option AObj, ((o.put nx x).put (nx + 1) y).get i = some (.row [s, .map (some m)] 56 z true) := fun x y => by
      rw [get_put_ne _ _ _ _ (by omega), get_put_ne _ _ _ _ (by omega)]; exact hr
    have hl : ∀ H : AHeap, H.get m = some (.map es c) → aLookup Try.prog 54 (.map (some m)) (.agg #[.int .u8 k.1, .int .i64 k.2]) true H = _ := fun H hg => aLookup_by key_vv Try.underlying54 zi hg hmap k true
    rw [y_fn (rs := [.cell 4 40]) (hO _ (by decide)) Try.func27 rfl (by kernel_rfl) rfl rfl]
    rcases kv_find k l 0 0 with ⟨h1, h2⟩ | ⟨r, v, h1, h2, h3⟩
    · rw [h1] at hl
      have hg : getL l k = (0, 0) := by simp only [getL, h2]
      simp (maxDischargeDepth := 6) only [y_seq, y_region, y_cond, y_skip, y_ret, y_exit, y_label, y_block, y_scope, onTo_on, onTo_out, onTo_back, outOf_on, outOf_back, outOf_out, inScope_on, inScope_back, y_nil, y_op, y_guard, want_eq, y_draw, yd_nil, yd_op, relogL_nil, calm_nil, calm_pure_r, calm_cons, clash_pure_r, clash_pure_l, clash_ll, clash_lf, clash_fl, clash_ff, clash_lo, clash_ol, clash_fo, clash_of, clash_oo, List.any_nil, beq_self, List.isEmpty_nil, Bool.true_or, Bool.or_true, classOf, st_move, st_assign, st_pick, st_alloc, st_box, st_buildV, st_load, st_store, st_nilCheck, st_field, st_extract, st_makeFunc, st_makeMap, st_fieldAddr, st_binOp, st_lookup, st_call, st_mapUpdate, st_insert, aEval_tmp, aEval_const, aEval_func, putE_some, putE_none, get_put_same, get_put_ne, Tr.get_nil, argsEnv, heap_get, heap_upd, heap_add, new_row, got_some, got_none, got_map, got_bind, boolOf, someRef, addOff, tupleAt, isC, fnEnd_on, fnEnd_back, fnEnd_out, res_nil, res_tmp, res_cell, oneOf_one, oneOf_two, oneOf_three, oneOf_nil, rowAt, Option.getD_some, Option.getD_none, Option.bind_some, Option.bind_none, Option.map_some, Option.map_none, ↓c_true, ↓c_false, List.length_cons, List.length_nil, List.getElem?_cons_succ, List.getElem?_cons_zero, Nat.reduceAdd, Nat.reduceEqDiff, ne_eq, not_false_eq_true, Nat.add_zero, Nat.zero_add, Nat.add_assoc, List.map_cons, List.map_nil, List.nil_append, List.append_nil, List.cons_append, Bool.not_true, Bool.not_false, ne_new, ne_new0, new_ne, new_ne0, self_ne, self_ne', Nat.add_left_cancel_iff, all_note, List.all_nil, ble_self, ble_add, Bool.and_self, Bool.and_true, Bool.true_and, true_and, and_true, b_add, b_sub, b_mul, b_lss, b_leq, b_gtr, b_geq, b_eql, b_neq, store_nil, store_cons, ownRow, oneV_int, oneV_bool, oneV_string, oneV_ptr, oneV_map, oneV_slice, cells_int, cells_bool, cells_string, cells_ptr, cells_map, cells_slice, cells_agg, low_int, low_bool, low_string, low_unit, low_vv, cut_two, leave_quiet, List.set_cons_zero, List.set_cons_succ, Nat.reduceLT, and_self, if_true, ite_true, List.size_toArray, Nat.lt_add_one, Nat.zero_lt_succ, List.getElem?_toArray, st_lenV, st_unOp, unV_not, cast_of, cut_one, cut_three, cut_four, cut_five, cut_six, st_slice, isSl_slice, Int.reduceLE, Int.reduceLT, Int.reduceEq, Int.reduceNeg, Int.reduceAdd, decide_true, decide_false, lt_new, any_note, isEmpty_note, beq_new, beq_new0, beq_add, Bool.or_false, Bool.false_or, Bool.false_and, Bool.and_false, Bool.or_self, st_indexS, st_sliceS, isStr_str, st_convI, isInt_int, b_eqlS, b_neqS, b_and, b_or, b_xor, b_shl, b_shr, unV_neg, unV_xor, low_str, low_ii, low_ib, low_bi, low_si, low_sb, ofNat_ge, toNat_of, ofNat_lt, ofNat_le, ofNat_eq, byte_eq, size_str, y_app, lenL_nil, lenL_cons, lenL_app, dstAt_zero, dstAt_succ, dstAt_app, Nat.reduceSub, if_false, ite_false, vv, hg, fo, fo0, fo1, hr, he, hl, aLoad_one sz, aLoad_one sz0, aLoad_agg sz1, aStore_at st1, st_indexAddr _ el, ze, bu, calleeV_func _ _ _ co, right_ok hO (hr' _ _), hi, hm]
      exact leave_quiet (by simp only [all_note, ble_add, List.all_nil, Bool.and_self]) rfl
    · rw [h2] at hl
      have hg : getL l k = v := by simp only [getL, h3]
      have hrl := (List.getElem?_eq_some_iff.1 h1).1
      rcases hs with ⟨rfl, rfl⟩ | ⟨j, rest, rfl, hj, hji, hjm, hrow⟩
      · simp at hrl
      have hb : Nat.blt r l.length = true := by rw [Nat.blt_eq]; exact hrl
      have hc := cut_value h1 rest
      simp (maxDischargeDepth := 6) only [y_seq, y_region, y_cond, y_skip, y_ret, y_exit, y_label, y_block, y_scope, onTo_on, onTo_out, onTo_back, outOf_on, outOf_back, outOf_out, inScope_on, inScope_back, y_nil, y_op, y_guard, want_eq, y_draw, yd_nil, yd_op, relogL_nil, calm_nil, calm_pure_r, calm_cons, clash_pure_r, clash_pure_l, clash_ll, clash_lf, clash_fl, clash_ff, clash_lo, clash_ol, clash_fo, clash_of, clash_oo, List.any_nil, beq_self, List.isEmpty_nil, Bool.true_or, Bool.or_true, classOf, st_move, st_assign, st_pick, st_alloc, st_box, st_buildV, st_load, st_store, st_nilCheck, st_field, st_extract, st_makeFunc, st_makeMap, st_fieldAddr, st_binOp, st_lookup, st_call, st_mapUpdate, st_insert, aEval_tmp, aEval_const, aEval_func, putE_some, putE_none, get_put_same, get_put_ne, Tr.get_nil, argsEnv, heap_get, heap_upd, heap_add, new_row, got_some, got_none, got_map, got_bind, boolOf, someRef, addOff, tupleAt, isC, fnEnd_on, fnEnd_back, fnEnd_out, res_nil, res_tmp, res_cell, oneOf_one, oneOf_two, oneOf_three, oneOf_nil, rowAt, Option.getD_some, Option.getD_none, Option.bind_some, Option.bind_none, Option.map_some, Option.map_none, ↓c_true, ↓c_false, List.length_cons, List.length_nil, List.getElem?_cons_succ, List.getElem?_cons_zero, Nat.reduceAdd, Nat.reduceEqDiff, ne_eq, not_false_eq_true, Nat.add_zero, Nat.zero_add, Nat.add_assoc, List.map_cons, List.map_nil, List.nil_append, List.append_nil, List.cons_append, Bool.not_true, Bool.not_false, ne_new, ne_new0, new_ne, new_ne0, self_ne, self_ne', Nat.add_left_cancel_iff, all_note, List.all_nil, ble_self, ble_add, Bool.and_self, Bool.and_true, Bool.true_and, true_and, and_true, b_add, b_sub, b_mul, b_lss, b_leq, b_gtr, b_geq, b_eql, b_neq, store_nil, store_cons, ownRow, oneV_int, oneV_bool, oneV_string, oneV_ptr, oneV_map, oneV_slice, cells_int, cells_bool, cells_string, cells_ptr, cells_map, cells_slice, cells_agg, low_int, low_bool, low_string, low_unit, low_vv, cut_two, leave_quiet, List.set_cons_zero, List.set_cons_succ, Nat.reduceLT, and_self, if_true, ite_true, List.size_toArray, Nat.lt_add_one, Nat.zero_lt_succ, List.getElem?_toArray, st_lenV, st_unOp, unV_not, cast_of, cut_one, cut_three, cut_four, cut_five, cut_six, st_slice, isSl_slice, Int.reduceLE, Int.reduceLT, Int.reduceEq, Int.reduceNeg, Int.reduceAdd, decide_true, decide_false, lt_new, any_note, isEmpty_note, beq_new, beq_new0, beq_add, Bool.or_false, Bool.false_or, Bool.false_and, Bool.and_false, Bool.or_self, st_indexS, st_sliceS, isStr_str, st_convI, isInt_int, b_eqlS, b_neqS, b_and, b_or, b_xor, b_shl, b_shr, unV_neg, unV_xor, low_str, low_ii, low_ib, low_bi, low_si, low_sb, ofNat_ge, toNat_of, ofNat_lt, ofNat_le, ofNat_eq, byte_eq, size_str, y_app, lenL_nil, lenL_cons, lenL_app, dstAt_zero, dstAt_succ, dstAt_app, Nat.reduceSub, if_false, ite_false, vv, hg, fo, fo0, fo1, hr, he, hl, aLoad_one sz, aLoad_one sz0, aLoad_agg sz1, aStore_at st1, st_indexAddr _ el, ze, bu, calleeV_func _ _ _ co, right_ok hO (hr' _ _), hi, hm, hj, indexAt, hb, Option.isNone_none, hrow, hc]
      exact leave_quiet (by simp only [all_note, ble_add, List.all_nil, Bool.and_self]) rfl
  obtain ⟨a, h1, rfl⟩ := this
  exact h1
end Go.Proofs.Ytmflapajjghpmaa
