/- Table: how it lies in the abstract memory; Get. -/
import Derived.Test.YtdfadipfhcikdaaGreatDoorTabDef
namespace Go.Proofs.YtdfadipfhcikdaaGreatDoor
open Go.RowKit
set_option linter.unusedVariables false
set_option linter.unusedSimpArgs false

structure TabAt (o : Tr AObj) (nx i : Nat) (l : List (VV × VV)) : Prop where
  lt : i < nx
  row : ∃ s m z, o.get i = some (.row [s, .map (some m)] 98 z true) ∧ m < nx ∧ m ≠ i ∧ (∃ es c, o.get m = some (.map es c) ∧ MapIs vv es (kvFrom 0 l)) ∧
    ((s = .slice none 0 0 ∧ l = []) ∨ ∃ j rest, s = .slice (some ⟨j, 0, none⟩) l.length 0 ∧ j < nx ∧ j ≠ i ∧ j ≠ m ∧ o.get j = some (.row (cellsOf l ++ rest) 102 4 true))

theorem right_ok {O : Helps} (hO : Clear O) {n : Nat} {o : Tr AObj} {nx : Nat} {lg : List Nat} {i m : Nat} {sl : Value} {e z : Nat} {own : Bool} (h : o.get i = some (.row [sl, .map (some m)] e z own)) :
    oCall Tryz.prog [] O (n + 1) 59 [.pointer (some ⟨i, 0, none⟩)] ⟨o, nx, lg⟩ = some (.bool true, ⟨o, nx, lg⟩) := by
  have : Got (oCall Tryz.prog [] O (n + 1) 59 [.pointer (some ⟨i, 0, none⟩)] ⟨o, nx, lg⟩) fun r => r = (.bool true, ⟨o, nx, lg⟩) := by
    have fo : fieldOff Tryz.prog 98 1 = some 1 := by kernel_rfl
    have sz : aggSize Tryz.prog 95 = some none := by kernel_rfl
    rw [y_fn (rs := [.tmp 2]) (hO _ (by decide)) Tryz.func59 rfl (by kernel_rfl) rfl rfl]
    simp (maxDischargeDepth := 6) only [za, zb, zd, zg, zh, zj, zl, zm, zn, zp, zq, zr, zu, zw, zx, zy, zA, zB, zC, zD, zE, zF, zG, zH, zI, zJ, zK, zL, zM, zN, zO, zP, zQ, zR, zS, zT, zU, zV, zW, List.any_nil, zX, List.isEmpty_nil, Bool.true_or, Bool.or_true, zY, zZ, qb, qc, qd, qe, qf, qg, qh, qi, qj, qk, qo, qp, qr, qs, qt, qu, qx, qy, qz, qA, qB, qC, qD, qE, qF, Tr.get_nil, qG, qH, qI, qJ, qK, qL, qM, qN, qO, qP, qQ, qR, qS, qT, qU, qV, qW, qX, qY, qZ, ja, jb, jc, jd, rowAt, Option.getD_some, Option.getD_none, Option.bind_some, Option.bind_none, Option.map_some, Option.map_none, ↓jg, ↓ji, List.length_cons, List.length_nil, List.getElem?_cons_succ, List.getElem?_cons_zero, Nat.reduceAdd, Nat.reduceEqDiff, ne_eq, not_false_eq_true, Nat.add_zero, Nat.zero_add, Nat.add_assoc, List.map_cons, List.map_nil, List.nil_append, List.append_nil, List.cons_append, Bool.not_true, Bool.not_false, jk, jn, jo, jp, jq, jr, Nat.add_left_cancel_iff, js, List.all_nil, jt, ju, Bool.and_self, Bool.and_true, Bool.true_and, true_and, and_true, jv, jw, jx, jy, jz, jA, jB, jC, jD, jE, jF, jG, jH, jI, jJ, jK, jL, jM, jN, jO, jP, jQ, jR, jS, jT, jU, jV, jW, jX, jY, jZ, Ja, List.set_cons_zero, List.set_cons_succ, Nat.reduceLT, and_self, if_true, ite_true, List.size_toArray, Nat.lt_add_one, Nat.zero_lt_succ, List.getElem?_toArray, Jb, Jc, Jd, Je, Jf, Jg, Jh, Ji, Jj, Jk, Jl, Int.reduceLE, Int.reduceLT, Int.reduceEq, Int.reduceNeg, Int.reduceAdd, decide_true, decide_false, Jm, Jn, Jo, Jp, Jq, Jr, Bool.or_false, Bool.false_or, Bool.false_and, Bool.and_false, Bool.or_self, Js, Jt, Ju, Jv, Jw, Jx, Jy, Jz, JA, JB, JC, JD, JE, JF, JG, JH, JI, JJ, JK, JL, JM, JN, JO, JP, JQ, JR, JS, JT, JU, JV, JW, JX, JY, JZ, Nat.reduceSub, if_false, ite_false, fo, h, aLoad_one sz, b_neq_ptr Tryz.underlying53, b_neq_map Tryz.underlying95]
    exact Ja rfl rfl
  obtain ⟨a, h1, rfl⟩ := this
  exact h1

def getL (l : List (VV × VV)) (k : VV) : VV := match l.find? (fun p => p.1 = k) with
  | some p => p.2
  | none => (0, 0)
theorem kv_find (k : VV) : ∀ (l : List (VV × VV)) (b i : Nat), (findK k (kvFrom b l) i = none ∧ l.find? (fun p => p.1 = k) = none) ∨ ∃ r v, l[r]? = some (k, v) ∧ findK k (kvFrom b l) i = some (i + r, .int .i64 (.ofNat (b + r))) ∧ l.find? (fun p => p.1 = k) = some (k, v)
  | [], b, i => .inl ⟨rfl, rfl⟩
  | p :: l, b, i => by
    by_cases e : p.1 = k
    · refine .inr ⟨0, p.2, by simp [← e], ?_, ?_⟩
      · simp only [kvFrom, findK, e, if_true, Nat.add_zero]
      · rw [List.find?_cons_of_pos (by simp [e])]; rw [← e]
    · rcases kv_find k l (b + 1) (i + 1) with ⟨h1, h2⟩ | ⟨r, v, h1, h2, h3⟩
      · refine .inl ⟨?_, ?_⟩
        · simp only [kvFrom, findK]; rw [if_neg (fun h => e h.symm)]; exact h1
        · rw [List.find?_cons_of_neg (by simp [e])]; exact h2
      · refine .inr ⟨r + 1, v, by simpa using h1, ?_, ?_⟩
        · simp only [kvFrom, findK]; rw [if_neg (fun h => e h.symm), h2]
          rw [show i + 1 + r = i + (r + 1) from by omega, show b + 1 + r = b + (r + 1) from by omega]
        · rw [List.find?_cons_of_neg (by simp [e])]; exact h3
theorem cells_len (l : List (VV × VV)) : (cellsOf l).length = l.length * 4 := by
  induction l with
  | nil => rfl
  | cons p l ih => simp only [cellsOf, List.flatMap_cons, List.length_append, List.length_cons, List.length_nil] at ih ⊢; omega
theorem cells_split {l : List (VV × VV)} {r : Nat} {p : VV × VV} (h : l[r]? = some p) : cellsOf l = cellsOf (l.take r) ++ ([.int .u8 p.1.1, .int .i64 p.1.2, .int .u8 p.2.1, .int .i64 p.2.2] ++ cellsOf (l.drop (r + 1))) := by
  have hr := (List.getElem?_eq_some_iff.1 h).1
  have e : l = l.take r ++ (p :: l.drop (r + 1)) := by
    conv => lhs; rw [← List.take_append_drop r l, List.drop_eq_getElem_cons hr]
    rw [(List.getElem?_eq_some_iff.1 h).2]
  conv => lhs; rw [e]
  simp only [cellsOf, List.flatMap_append, List.flatMap_cons]
theorem cut_value {l : List (VV × VV)} {r : Nat} {p : VV × VV} (h : l[r]? = some p) (rest : List Value) : cut (cellsOf l ++ rest) (r * 4 + 2) 2 = some [.int .u8 p.2.1, .int .i64 p.2.2] := by
  have hr := (List.getElem?_eq_some_iff.1 h).1
  refine cut_in rfl (cellsOf (l.take r) ++ [.int .u8 p.1.1, .int .i64 p.1.2]) (cellsOf (l.drop (r + 1)) ++ rest) ?_ ?_
  · simp only [List.length_append, cells_len, List.length_take, List.length_cons, List.length_nil]; omega
  · rw [cells_split h]; simp
theorem cut_key {l : List (VV × VV)} {r : Nat} {p : VV × VV} (h : l[r]? = some p) (rest : List Value) : cut (cellsOf l ++ rest) (r * 4) 2 = some [.int .u8 p.1.1, .int .i64 p.1.2] := by
  have hr := (List.getElem?_eq_some_iff.1 h).1
  refine cut_in rfl (cellsOf (l.take r)) ([.int .u8 p.2.1, .int .i64 p.2.2] ++ (cellsOf (l.drop (r + 1)) ++ rest)) ?_ ?_
  · simp only [cells_len, List.length_take]; omega
  · rw [cells_split h]; simp

theorem get_ok {O : Helps} (hO : Clear O) {n : Nat} {o : Tr AObj} {nx : Nat} {lg : List Nat} {i : Nat} {l : List (VV × VV)} (h : TabAt o nx i l) (k : VV) :
    oCall Tryz.prog [] O (n + 2) 18 [.pointer (some ⟨i, 0, none⟩), vv k] ⟨o, nx, lg⟩ = some (vv (getL l k), ⟨o, nx, lg⟩) := by
  obtain ⟨hi, s, m, z, hr, hm, hmi, ⟨es, c, he, hmap⟩, hs⟩ := h
  have : Got (oCall Tryz.prog [] O (n + 2) 18 [.pointer (some ⟨i, 0, none⟩), vv k] ⟨o, nx, lg⟩) fun r => r = (vv (getL l k), ⟨o, nx, lg⟩) := by
    have fo : fieldOff Tryz.prog 98 1 = some 1 := by kernel_rfl
    have fo0 : fieldOff Tryz.prog 98 0 = some 0 := by kernel_rfl
    have fo1 : fieldOff Tryz.prog 102 1 = some 2 := by kernel_rfl
    have sz : aggSize Tryz.prog 95 = some none := by kernel_rfl
    have sz0 : aggSize Tryz.prog 96 = some none := by kernel_rfl
    have sz1 : aggSize Tryz.prog 29 = some (some 2) := by kernel_rfl
    have st1 : sizeT Tryz.prog 29 = some 2 := by kernel_rfl
    have ze : zeroOf Tryz.prog 29 = some (.agg #[.int .u8 0, .int .i64 0]) := by kernel_rfl
    have zi : zeroOf Tryz.prog 3 = some (.int .i64 0) := by kernel_rfl
    have bu : buildV Tryz.prog 29 [] = some (.agg #[.int .u8 0, .int .i64 0]) := by kernel_rfl
    have el : elemOf Tryz.prog 96 = some (none, 4) := by kernel_rfl
    have co : codeOf Tryz.prog 59 = true := by kernel_rfl
    have hr' : ∀ x y : Option AObj, ((o.put nx x).put (nx + 1) y).get i = some (.row [s, .map (some m)] 98 z true) := fun x y => by
      rw [qF _ _ _ _ (by omega), qF _ _ _ _ (by omega)]; exact hr
    have hl : ∀ H : AHeap, H.get m = some (.map es c) → aLookup Tryz.prog 95 (.map (some m)) (.agg #[.int .u8 k.1, .int .i64 k.2]) true H = _ := fun H hg => aLookup_by key_vv Tryz.underlying95 zi hg hmap k true
    rw [y_fn (rs := [.cell 4 29]) (hO _ (by decide)) Tryz.func18 rfl (by kernel_rfl) rfl rfl]
    rcases kv_find k l 0 0 with ⟨h1, h2⟩ | ⟨r, v, h1, h2, h3⟩
    · rw [h1] at hl
      have hg : getL l k = (0, 0) := by simp only [getL, h2]
      simp (maxDischargeDepth := 6) only [za, zb, zd, zg, zh, zj, zl, zm, zn, zp, zq, zr, zu, zw, zx, zy, zA, zB, zC, zD, zE, zF, zG, zH, zI, zJ, zK, zL, zM, zN, zO, zP, zQ, zR, zS, zT, zU, zV, zW, List.any_nil, zX, List.isEmpty_nil, Bool.true_or, Bool.or_true, zY, zZ, qb, qc, qd, qe, qf, qg, qh, qi, qj, qk, qo, qp, qr, qs, qt, qu, qx, qy, qz, qA, qB, qC, qD, qE, qF, Tr.get_nil, qG, qH, qI, qJ, qK, qL, qM, qN, qO, qP, qQ, qR, qS, qT, qU, qV, qW, qX, qY, qZ, ja, jb, jc, jd, rowAt, Option.getD_some, Option.getD_none, Option.bind_some, Option.bind_none, Option.map_some, Option.map_none, ↓jg, ↓ji, List.length_cons, List.length_nil, List.getElem?_cons_succ, List.getElem?_cons_zero, Nat.reduceAdd, Nat.reduceEqDiff, ne_eq, not_false_eq_true, Nat.add_zero, Nat.zero_add, Nat.add_assoc, List.map_cons, List.map_nil, List.nil_append, List.append_nil, List.cons_append, Bool.not_true, Bool.not_false, jk, jn, jo, jp, jq, jr, Nat.add_left_cancel_iff, js, List.all_nil, jt, ju, Bool.and_self, Bool.and_true, Bool.true_and, true_and, and_true, jv, jw, jx, jy, jz, jA, jB, jC, jD, jE, jF, jG, jH, jI, jJ, jK, jL, jM, jN, jO, jP, jQ, jR, jS, jT, jU, jV, jW, jX, jY, jZ, Ja, List.set_cons_zero, List.set_cons_succ, Nat.reduceLT, and_self, if_true, ite_true, List.size_toArray, Nat.lt_add_one, Nat.zero_lt_succ, List.getElem?_toArray, Jb, Jc, Jd, Je, Jf, Jg, Jh, Ji, Jj, Jk, Jl, Int.reduceLE, Int.reduceLT, Int.reduceEq, Int.reduceNeg, Int.reduceAdd, decide_true, decide_false, Jm, Jn, Jo, Jp, Jq, Jr, Bool.or_false, Bool.false_or, Bool.false_and, Bool.and_false, Bool.or_self, Js, Jt, Ju, Jv, Jw, Jx, Jy, Jz, JA, JB, JC, JD, JE, JF, JG, JH, JI, JJ, JK, JL, JM, JN, JO, JP, JQ, JR, JS, JT, JU, JV, JW, JX, JY, JZ, Nat.reduceSub, if_false, ite_false, vv, hg, fo, fo0, fo1, hr, he, hl, aLoad_one sz, aLoad_one sz0, aLoad_agg sz1, aStore_at st1, st_indexAddr _ el, ze, bu, calleeV_func _ _ _ co, right_ok hO (hr' _ _), hi, hm]
      exact Ja (by simp only [js, ju, List.all_nil, Bool.and_self]) rfl
    · rw [h2] at hl
      have hg : getL l k = v := by simp only [getL, h3]
      have hrl := (List.getElem?_eq_some_iff.1 h1).1
      rcases hs with ⟨rfl, rfl⟩ | ⟨j, rest, rfl, hj, hji, hjm, hrow⟩
      · simp at hrl
      have hb : Nat.blt r l.length = true := by rw [Nat.blt_eq]; exact hrl
      have hc := cut_value h1 rest
      simp (maxDischargeDepth := 6) only [za, zb, zd, zg, zh, zj, zl, zm, zn, zp, zq, zr, zu, zw, zx, zy, zA, zB, zC, zD, zE, zF, zG, zH, zI, zJ, zK, zL, zM, zN, zO, zP, zQ, zR, zS, zT, zU, zV, zW, List.any_nil, zX, List.isEmpty_nil, Bool.true_or, Bool.or_true, zY, zZ, qb, qc, qd, qe, qf, qg, qh, qi, qj, qk, qo, qp, qr, qs, qt, qu, qx, qy, qz, qA, qB, qC, qD, qE, qF, Tr.get_nil, qG, qH, qI, qJ, qK, qL, qM, qN, qO, qP, qQ, qR, qS, qT, qU, qV, qW, qX, qY, qZ, ja, jb, jc, jd, rowAt, Option.getD_some, Option.getD_none, Option.bind_some, Option.bind_none, Option.map_some, Option.map_none, ↓jg, ↓ji, List.length_cons, List.length_nil, List.getElem?_cons_succ, List.getElem?_cons_zero, Nat.reduceAdd, Nat.reduceEqDiff, ne_eq, not_false_eq_true, Nat.add_zero, Nat.zero_add, Nat.add_assoc, List.map_cons, List.map_nil, List.nil_append, List.append_nil, List.cons_append, Bool.not_true, Bool.not_false, jk, jn, jo, jp, jq, jr, Nat.add_left_cancel_iff, js, List.all_nil, jt, ju, Bool.and_self, Bool.and_true, Bool.true_and, true_and, and_true, jv, jw, jx, jy, jz, jA, jB, jC, jD, jE, jF, jG, jH, jI, jJ, jK, jL, jM, jN, jO, jP, jQ, jR, jS, jT, jU, jV, jW, jX, jY, jZ, Ja, List.set_cons_zero, List.set_cons_succ, Nat.reduceLT, and_self, if_true, ite_true, List.size_toArray, Nat.lt_add_one, Nat.zero_lt_succ, List.getElem?_toArray, Jb, Jc, Jd, Je, Jf, Jg, Jh, Ji, Jj, Jk, Jl, Int.reduceLE, Int.reduceLT, Int.reduceEq, Int.reduceNeg, Int.reduceAdd, decide_true, decide_false, Jm, Jn, Jo, Jp, Jq, Jr, Bool.or_false, Bool.false_or, Bool.false_and, Bool.and_false, Bool.or_self, Js, Jt, Ju, Jv, Jw, Jx, Jy, Jz, JA, JB, JC, JD, JE, JF, JG, JH, JI, JJ, JK, JL, JM, JN, JO, JP, JQ, JR, JS, JT, JU, JV, JW, JX, JY, JZ, Nat.reduceSub, if_false, ite_false, vv, hg, fo, fo0, fo1, hr, he, hl, aLoad_one sz, aLoad_one sz0, aLoad_agg sz1, aStore_at st1, st_indexAddr _ el, ze, bu, calleeV_func _ _ _ co, right_ok hO (hr' _ _), hi, hm, hj, indexAt, hb, Option.isNone_none, hrow, hc]
      exact Ja (by simp only [js, ju, List.all_nil, Bool.and_self]) rfl
  obtain ⟨a, h1, rfl⟩ := this
  exact h1
end Go.Proofs.YtdfadipfhcikdaaGreatDoor

namespace Go.Proofs.YtdfadipfhcikdaaGreatDoor
open Go.RowKit
set_option linter.unusedSimpArgs false
set_option linter.unusedVariables false

theorem TabIn.at {o : Tr AObj} {nx i m : Nat} {a : Option Nat} {l : List (VV × VV)} (h : TabIn o nx i m a l) : TabAt o nx i l := by
  obtain ⟨z, hr⟩ := h.row
  refine ⟨h.lt, _, m, z, hr, h.ltm, h.ne, h.ents, ?_⟩
  rcases h.cells with ⟨rfl, rfl⟩ | ⟨j, rest, rfl, h1, h2, h3, h4⟩
  · exact .inl ⟨rfl, rfl⟩
  · exact .inr ⟨j, rest, rfl, h1, h2, h3, h4⟩
section
variable {O : Helps} {n : Nat} {o : Tr AObj} {nx : Nat} {lg : List Nat}
theorem new_tab (hO : Clear O) : Got (oCall Tryz.prog [] O (n + 1) 15 [] ⟨o, nx, lg⟩) fun r => ∃ o' lg', r = (.pointer (some ⟨nx + 3, 0, none⟩), ⟨o', nx + 5, lg'⟩) ∧ TabIn o' (nx + 5) (nx + 3) (nx + 1) none [] ∧ ∀ b, b < nx → o'.get b = o.get b := by
  rw [y_fn (rs := [.tmp 0]) (hO _ (by decide)) Tryz.func15 rfl (by kernel_rfl) rfl rfl]
  simp (maxDischargeDepth := 6) only [za, zb, zd, zg, zh, zj, zl, zm, zn, zp, zq, zr, zu, zw, zx, zy, zA, zB, zC, zD, zE, zF, zG, zH, zI, zJ, zK, zL, zM, zN, zO, zP, zQ, zR, zS, zT, zU, zV, zW, List.any_nil, zX, List.isEmpty_nil, Bool.true_or, Bool.or_true, zY, zZ, qb, qc, qd, qe, qf, qg, qh, qi, qj, qk, qo, qp, qr, qs, qt, qu, qx, qy, qz, qA, qB, qC, qD, qE, qF, Tr.get_nil, qG, qH, qI, qJ, qK, qL, qM, qN, qO, qP, qQ, qR, qS, qT, qU, qV, qW, qX, qY, qZ, ja, jb, jc, jd, rowAt, Option.getD_some, Option.getD_none, Option.bind_some, Option.bind_none, Option.map_some, Option.map_none, ↓jg, ↓ji, List.length_cons, List.length_nil, List.getElem?_cons_succ, List.getElem?_cons_zero, Nat.reduceAdd, Nat.reduceEqDiff, ne_eq, not_false_eq_true, Nat.add_zero, Nat.zero_add, Nat.add_assoc, List.map_cons, List.map_nil, List.nil_append, List.append_nil, List.cons_append, Bool.not_true, Bool.not_false, jk, jn, jo, jp, jq, jr, Nat.add_left_cancel_iff, js, List.all_nil, jt, ju, Bool.and_self, Bool.and_true, Bool.true_and, true_and, and_true, jv, jw, jx, jy, jz, jA, jB, jC, jD, jE, jF, jG, jH, jI, jJ, jK, jL, jM, jN, jO, jP, jQ, jR, jS, jT, jU, jV, jW, jX, jY, jZ, Ja, List.set_cons_zero, List.set_cons_succ, Nat.reduceLT, and_self, if_true, ite_true, List.size_toArray, Nat.lt_add_one, Nat.zero_lt_succ, List.getElem?_toArray, Jb, Jc, Jd, Je, Jf, Jg, Jh, Ji, Jj, Jk, Jl, Int.reduceLE, Int.reduceLT, Int.reduceEq, Int.reduceNeg, Int.reduceAdd, decide_true, decide_false, Jm, Jn, Jo, Jp, Jq, Jr, Bool.or_false, Bool.false_or, Bool.false_and, Bool.and_false, Bool.or_self, Js, Jt, Ju, Jv, Jw, Jx, Jy, Jz, JA, JB, JC, JD, JE, JF, JG, JH, JI, JJ, JK, JL, JM, JN, JO, JP, JQ, JR, JS, JT, JU, JV, JW, JX, JY, JZ, Nat.reduceSub, if_false, ite_false, bu_98_1]
  obtain ⟨lg', e⟩ := leave_loud (o := o) (o' := (o.put (nx + 1) (some (.map [] 0))).put (nx + 3) (some (.row [.slice none 0 0, .map (some (nx + 1))] 98 0 true))) (nx := nx) (nx' := nx + 5) (lg := lg) (l := []) (v := .pointer (some ⟨nx + 3, 0, none⟩)) (by
    show Nat.blt (nx + 3) nx = false
    exact blt_new (by omega))
  refine ⟨_, lg', e, ⟨by omega, by omega, by omega, ⟨0, ?_⟩, ⟨[], 0, ?_, rfl⟩, .inl ⟨rfl, rfl⟩, List.nodup_nil⟩, fun b hb => ?_⟩
  · rw [qE]; rfl
  · rw [qF _ _ _ _ (by omega), qE]
  · rw [qF _ _ _ _ (by omega), qF _ _ _ _ (by omega)]
def plainB (v : VV) : Bool := decide (2 < v.1) || decide (v.2 = 0)
theorem plain_ok (hO : Clear O) (v : VV) : oCall Tryz.prog [] O (n + 1) 61 [vv v] ⟨o, nx, lg⟩ = some (.bool (plainB v), ⟨o, nx, lg⟩) := by
  refine of_got ?_
  rw [y_fn (rs := [.tmp 2]) (hO _ (by decide)) Tryz.func61 rfl (by kernel_rfl) rfl rfl]
  unfold plainB
  by_cases h : 2 < v.1
  · simp (maxDischargeDepth := 6) only [za, zb, zd, zg, zh, zj, zl, zm, zn, zp, zq, zr, zu, zw, zx, zy, zA, zB, zC, zD, zE, zF, zG, zH, zI, zJ, zK, zL, zM, zN, zO, zP, zQ, zR, zS, zT, zU, zV, zW, List.any_nil, zX, List.isEmpty_nil, Bool.true_or, Bool.or_true, zY, zZ, qb, qc, qd, qe, qf, qg, qh, qi, qj, qk, qo, qp, qr, qs, qt, qu, qx, qy, qz, qA, qB, qC, qD, qE, qF, Tr.get_nil, qG, qH, qI, qJ, qK, qL, qM, qN, qO, qP, qQ, qR, qS, qT, qU, qV, qW, qX, qY, qZ, ja, jb, jc, jd, rowAt, Option.getD_some, Option.getD_none, Option.bind_some, Option.bind_none, Option.map_some, Option.map_none, ↓jg, ↓ji, List.length_cons, List.length_nil, List.getElem?_cons_succ, List.getElem?_cons_zero, Nat.reduceAdd, Nat.reduceEqDiff, ne_eq, not_false_eq_true, Nat.add_zero, Nat.zero_add, Nat.add_assoc, List.map_cons, List.map_nil, List.nil_append, List.append_nil, List.cons_append, Bool.not_true, Bool.not_false, jk, jn, jo, jp, jq, jr, Nat.add_left_cancel_iff, js, List.all_nil, jt, ju, Bool.and_self, Bool.and_true, Bool.true_and, true_and, and_true, jv, jw, jx, jy, jz, jA, jB, jC, jD, jE, jF, jG, jH, jI, jJ, jK, jL, jM, jN, jO, jP, jQ, jR, jS, jT, jU, jV, jW, jX, jY, jZ, Ja, List.set_cons_zero, List.set_cons_succ, Nat.reduceLT, and_self, if_true, ite_true, List.size_toArray, Nat.lt_add_one, Nat.zero_lt_succ, List.getElem?_toArray, Jb, Jc, Jd, Je, Jf, Jg, Jh, Ji, Jj, Jk, Jl, Int.reduceLE, Int.reduceLT, Int.reduceEq, Int.reduceNeg, Int.reduceAdd, decide_true, decide_false, Jm, Jn, Jo, Jp, Jq, Jr, Bool.or_false, Bool.false_or, Bool.false_and, Bool.and_false, Bool.or_self, Js, Jt, Ju, Jv, Jw, Jx, Jy, Jz, JA, JB, JC, JD, JE, JF, JG, JH, JI, JJ, JK, JL, JM, JN, JO, JP, JQ, JR, JS, JT, JU, JV, JW, JX, JY, JZ, Nat.reduceSub, if_false, ite_false, fo_29_0, aLoad_one ld_27, fo_29_1, aLoad_one ld_2, vv, decide_eq_true h]
    try exact Ja (by simp only [all_relogL, js, ju, List.all_nil, jt, Bool.and_self]) (by rfl)
  · simp (maxDischargeDepth := 6) only [za, zb, zd, zg, zh, zj, zl, zm, zn, zp, zq, zr, zu, zw, zx, zy, zA, zB, zC, zD, zE, zF, zG, zH, zI, zJ, zK, zL, zM, zN, zO, zP, zQ, zR, zS, zT, zU, zV, zW, List.any_nil, zX, List.isEmpty_nil, Bool.true_or, Bool.or_true, zY, zZ, qb, qc, qd, qe, qf, qg, qh, qi, qj, qk, qo, qp, qr, qs, qt, qu, qx, qy, qz, qA, qB, qC, qD, qE, qF, Tr.get_nil, qG, qH, qI, qJ, qK, qL, qM, qN, qO, qP, qQ, qR, qS, qT, qU, qV, qW, qX, qY, qZ, ja, jb, jc, jd, rowAt, Option.getD_some, Option.getD_none, Option.bind_some, Option.bind_none, Option.map_some, Option.map_none, ↓jg, ↓ji, List.length_cons, List.length_nil, List.getElem?_cons_succ, List.getElem?_cons_zero, Nat.reduceAdd, Nat.reduceEqDiff, ne_eq, not_false_eq_true, Nat.add_zero, Nat.zero_add, Nat.add_assoc, List.map_cons, List.map_nil, List.nil_append, List.append_nil, List.cons_append, Bool.not_true, Bool.not_false, jk, jn, jo, jp, jq, jr, Nat.add_left_cancel_iff, js, List.all_nil, jt, ju, Bool.and_self, Bool.and_true, Bool.true_and, true_and, and_true, jv, jw, jx, jy, jz, jA, jB, jC, jD, jE, jF, jG, jH, jI, jJ, jK, jL, jM, jN, jO, jP, jQ, jR, jS, jT, jU, jV, jW, jX, jY, jZ, Ja, List.set_cons_zero, List.set_cons_succ, Nat.reduceLT, and_self, if_true, ite_true, List.size_toArray, Nat.lt_add_one, Nat.zero_lt_succ, List.getElem?_toArray, Jb, Jc, Jd, Je, Jf, Jg, Jh, Ji, Jj, Jk, Jl, Int.reduceLE, Int.reduceLT, Int.reduceEq, Int.reduceNeg, Int.reduceAdd, decide_true, decide_false, Jm, Jn, Jo, Jp, Jq, Jr, Bool.or_false, Bool.false_or, Bool.false_and, Bool.and_false, Bool.or_self, Js, Jt, Ju, Jv, Jw, Jx, Jy, Jz, JA, JB, JC, JD, JE, JF, JG, JH, JI, JJ, JK, JL, JM, JN, JO, JP, JQ, JR, JS, JT, JU, JV, JW, JX, JY, JZ, Nat.reduceSub, if_false, ite_false, fo_29_0, aLoad_one ld_27, fo_29_1, aLoad_one ld_2, vv, decide_eq_false h]
    try exact Ja (by simp only [all_relogL, js, ju, List.all_nil, jt, Bool.and_self]) (by rfl)
end
end Go.Proofs.YtdfadipfhcikdaaGreatDoor

namespace Go.Proofs.YtdfadipfhcikdaaGreatDoor
open Go.RowKit
set_option linter.unusedSimpArgs false
set_option linter.unusedVariables false
set_option maxRecDepth 100000

theorem leave_newT {o o' : Tr AObj} {nx nx' : Nat} {lg l : List Nat} {v : Value} (hl : l.all (fun i => Nat.ble nx i) = true) (hv : lowV nx v = false) : leave ⟨o, nx, lg⟩ v ⟨o', nx', l⟩ = (v, ⟨o', nx', lg⟩) := by
  unfold leave
  simp only [hl, hv, Bool.and_false, cond]
  have : (l.filter fun i => Nat.blt i nx) = [] := by
    rw [List.filter_eq_nil_iff]
    intro x hx
    have := List.all_eq_true.1 hl x hx
    rw [Nat.ble_eq] at this
    rw [Nat.blt_eq]; omega
  rw [this]; rfl
section
variable {O : Helps} {n : Nat} {o : Tr AObj} {nx : Nat} {lg : List Nat}
theorem new_tab2 (hO : Clear O) : oCall Tryz.prog [] O (n + 1) 15 [] ⟨o, nx, lg⟩ = some (.pointer (some ⟨nx + 3, 0, none⟩), ⟨(o.put (nx + 1) (some (.map [] 0))).put (nx + 3) (some (.row [.slice none 0 0, .map (some (nx + 1))] 98 0 true)), nx + 5, lg⟩) := by
  refine of_got ?_
  rw [y_fn (rs := [.tmp 0]) (hO _ (by decide)) Tryz.func15 rfl (by kernel_rfl) rfl rfl]
  simp (maxDischargeDepth := 6) only [za, zb, zd, zg, zh, zj, zl, zm, zn, zp, zq, zr, zu, zw, zx, zy, zA, zB, zC, zD, zE, zF, zG, zH, zI, zJ, zK, zL, zM, zN, zO, zP, zQ, zR, zS, zT, zU, zV, zW, List.any_nil, zX, List.isEmpty_nil, Bool.true_or, Bool.or_true, zY, zZ, qb, qc, qd, qe, qf, qg, qh, qi, qj, qk, qo, qp, qr, qs, qt, qu, qx, qy, qz, qA, qB, qC, qD, qE, qF, Tr.get_nil, qG, qH, qI, qJ, qK, qL, qM, qN, qO, qP, qQ, qR, qS, qT, qU, qV, qW, qX, qY, qZ, ja, jb, jc, jd, rowAt, Option.getD_some, Option.getD_none, Option.bind_some, Option.bind_none, Option.map_some, Option.map_none, ↓jg, ↓ji, List.length_cons, List.length_nil, List.getElem?_cons_succ, List.getElem?_cons_zero, Nat.reduceAdd, Nat.reduceEqDiff, ne_eq, not_false_eq_true, Nat.add_zero, Nat.zero_add, Nat.add_assoc, List.map_cons, List.map_nil, List.nil_append, List.append_nil, List.cons_append, Bool.not_true, Bool.not_false, jk, jn, jo, jp, jq, jr, Nat.add_left_cancel_iff, js, List.all_nil, jt, ju, Bool.and_self, Bool.and_true, Bool.true_and, true_and, and_true, jv, jw, jx, jy, jz, jA, jB, jC, jD, jE, jF, jG, jH, jI, jJ, jK, jL, jM, jN, jO, jP, jQ, jR, jS, jT, jU, jV, jW, jX, jY, jZ, Ja, List.set_cons_zero, List.set_cons_succ, Nat.reduceLT, and_self, if_true, ite_true, List.size_toArray, Nat.lt_add_one, Nat.zero_lt_succ, List.getElem?_toArray, Jb, Jc, Jd, Je, Jf, Jg, Jh, Ji, Jj, Jk, Jl, Int.reduceLE, Int.reduceLT, Int.reduceEq, Int.reduceNeg, Int.reduceAdd, decide_true, decide_false, Jm, Jn, Jo, Jp, Jq, Jr, Bool.or_false, Bool.false_or, Bool.false_and, Bool.and_false, Bool.or_self, Js, Jt, Ju, Jv, Jw, Jx, Jy, Jz, JA, JB, JC, JD, JE, JF, JG, JH, JI, JJ, JK, JL, JM, JN, JO, JP, JQ, JR, JS, JT, JU, JV, JW, JX, JY, JZ, Nat.reduceSub, if_false, ite_false, bu_98_1]
  exact leave_newT (by rfl) (show Nat.blt (nx + 3) nx = false from blt_new (by omega))
theorem new_tabIn : TabIn ((o.put (nx + 1) (some (.map [] 0))).put (nx + 3) (some (.row [.slice none 0 0, .map (some (nx + 1))] 98 0 true))) (nx + 5) (nx + 3) (nx + 1) none [] := by
  refine ⟨by omega, by omega, by omega, ⟨0, ?_⟩, ⟨[], 0, ?_, rfl⟩, .inl ⟨rfl, rfl⟩, List.nodup_nil⟩
  · rw [qE]; rfl
  · rw [qF _ _ _ _ (by omega), qE]
end
end Go.Proofs.YtdfadipfhcikdaaGreatDoor
