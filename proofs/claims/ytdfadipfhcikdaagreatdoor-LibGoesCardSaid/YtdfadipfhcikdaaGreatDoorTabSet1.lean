/- Table: Set, where the key is there, or nothing is to be set. -/
import Derived.Test.YtdfadipfhcikdaaGreatDoorTabDel
import Derived.Test.YtdfadipfhcikdaaGreatDoorAmGo
namespace Go.Proofs.YtdfadipfhcikdaaGreatDoor
open Go.RowKit
set_option linter.unusedSimpArgs false
set_option linter.unusedVariables false

/-- a key and a value that may be set -/
structure MaySet (k v : VV) : Prop where
  k0 : ¬ k.1 < 1
  k8 : ¬ 8 < k.1
  v8 : ¬ 8 < v.1
  pk : plainB k = true
  pv : plainB v = true
def posL (l : List (VV × VV)) (k : VV) : Option Nat := (findK k (kvFrom 0 l) 0).map (·.1)
def setL (l : List (VV × VV)) (k v : VV) : List (VV × VV) := match posL l k with
  | some r => l.set r (k, v)
  | none => if v.1 = 0 then l else liveL l ++ [(k, v)]
theorem kv_set (k v : VV) : ∀ (l : List (VV × VV)) (b r : Nat) (u : VV), l[r]? = some (k, u) → kvFrom b (l.set r (k, v)) = kvFrom b l
  | [], b, r, u, h => by simp at h
  | p :: l, b, 0, u, h => by simp at h; subst h; rfl
  | p :: l, b, r + 1, u, h => by
    simp only [List.set_cons_succ, kvFrom]
    rw [kv_set k v l (b + 1) r u (by simpa using h)]
theorem keys_set : ∀ (l : List (VV × VV)) (r : Nat) (k u v : VV), l[r]? = some (k, u) → (l.set r (k, v)).map Prod.fst = l.map Prod.fst
  | [], r, k, u, v, h => by simp at h
  | p :: l, 0, k, u, v, h => by simp at h; subst h; rfl
  | p :: l, r + 1, k, u, v, h => by
    simp only [List.set_cons_succ, List.map_cons]
    rw [keys_set l r k u v (by simpa using h)]
theorem cells_set {l : List (VV × VV)} {r : Nat} {k u : VV} (v : VV) (h : l[r]? = some (k, u)) (rest : List Value) :
    ((cellsOf l ++ rest).set (r * 4 + 2) (.int .u8 v.1)).set (r * 4 + (2 + 1)) (.int .i64 v.2) = cellsOf (l.set r (k, v)) ++ rest := by
  have hr := (List.getElem?_eq_some_iff.1 h).1
  have e : l.set r (k, v) = l.take r ++ ((k, v) :: l.drop (r + 1)) := by rw [List.set_eq_take_append_cons_drop, if_pos hr]
  have hlen : (cellsOf (l.take r)).length = r * 4 := by rw [cells_len, List.length_take, Nat.min_eq_left (Nat.le_of_lt hr)]
  rw [e, cells_split h]
  simp only [cellsOf, List.flatMap_append, List.flatMap_cons] at hlen ⊢
  simp only [List.append_assoc]
  rw [List.set_append_right _ _ (by omega), List.set_append_right _ _ (by omega), hlen]
  congr 1
  rw [show r * 4 + 2 - r * 4 = 2 from by omega, show r * 4 + (2 + 1) - r * 4 = 3 from by omega]
  rfl
theorem cut_four2 (a b c d : Value) : cut [a, b, c, d] 0 2 = some [a, b] := rfl
theorem beq_old {i nx : Nat} (h : i < nx) (k : Nat) : Nat.beq (nx + k) i = false := by
  cases e : Nat.beq (nx + k) i with
  | false => rfl
  | true => have := Nat.eq_of_beq_eq_true e; omega
theorem beq_ne {i j : Nat} (h : i ≠ j) : Nat.beq i j = false := by
  cases e : Nat.beq i j with
  | false => rfl
  | true => exact absurd (Nat.eq_of_beq_eq_true e) h
theorem kv_snoc (p : VV × VV) : ∀ (l : List (VV × VV)) (b : Nat), kvFrom b (l ++ [p]) = kvFrom b l ++ [(p.1, .int .i64 (.ofNat (b + l.length)))]
  | [], b => rfl
  | q :: l, b => by
    simp only [List.cons_append, kvFrom, kv_snoc p l (b + 1), List.length_cons]
    rw [show b + 1 + l.length = b + (l.length + 1) from by omega]
theorem findK_new {k : VV} : ∀ (l : List (VV × VV)) (b i : Nat), k ∉ l.map Prod.fst → findK k (kvFrom b l) i = none
  | [], b, i, h => rfl
  | q :: l, b, i, h => by
    rw [List.map_cons, List.mem_cons, not_or] at h
    simp only [kvFrom, findK]
    rw [if_neg h.1]
    exact findK_new l (b + 1) (i + 1) h.2
theorem not_seen {l : List (VV × VV)} (h : (l.map Prod.fst).Nodup) {i : Nat} {p : VV × VV} (hp : l[i]? = some p) : p.1 ∉ (l.take i).map Prod.fst := by
  intro hm
  rw [List.map_take] at hm
  obtain ⟨j, hj, he⟩ := List.getElem_of_mem hm
  have hj2 : j < i := by rw [List.length_take] at hj; omega
  have hi := (List.getElem?_eq_some_iff.1 hp).1
  have e1 : (l.map Prod.fst)[i]? = some p.1 := by rw [List.getElem?_map, hp]; rfl
  have e2 : (l.map Prod.fst)[j]? = some p.1 := by
    rw [List.getElem_take] at he
    rw [List.getElem?_eq_getElem (by simp; omega), he]
  have := (List.getElem?_inj (i := j) (j := i) (by simp; omega) h).1 (by rw [e1, e2])
  omega
theorem live_nodup {l : List (VV × VV)} (h : (l.map Prod.fst).Nodup) : ((liveL l).map Prod.fst).Nodup := h.sublist ((List.filter_sublist).map _)
section
variable {O : Helps} {n : Nat} {o : Tr AObj} {nx : Nat} {lg : List Nat}
/-- what Set tells, and leaves -/
abbrev SetDone (o : Tr AObj) (nx i m : Nat) (a : Option Nat) (l' : List (VV × VV)) (r : Value × AHeap) : Prop :=
  ∃ o' nx' lg' a', r = (.int .i64 0, ⟨o', nx', lg'⟩) ∧ TabIn o' nx' i m a' l' ∧ nx ≤ nx' ∧ (∀ b, b < nx → ¬ Mine i m a b → o'.get b = o.get b) ∧ (a' = a ∨ ∃ j, a' = some j ∧ nx ≤ j)
/-- .. and what is noted -/
abbrev SetDoneL (o : Tr AObj) (nx : Nat) (lg : List Nat) (i m : Nat) (a : Option Nat) (l l' : List (VV × VV)) (r : Value × AHeap) : Prop :=
  ∃ o' nx' lg' a', r = (.int .i64 0, ⟨o', nx', lg'⟩) ∧ TabIn o' nx' i m a' l' ∧ nx ≤ nx' ∧ (∀ b, b < nx → ¬ Mine i m a b → o'.get b = o.get b) ∧ (a' = a ∨ ∃ j, a' = some j ∧ nx ≤ j) ∧ (∀ y, y ∈ lg → y ∈ lg') ∧ ((∃ x, x ∈ lg' ∧ Mine i m a x) ∨ (o' = o ∧ nx' = nx ∧ lg' = lg ∧ a' = a ∧ l' = l))
/-- Set behind its first lines: the two boxes -/
def SetI (o : Tr AObj) (nx i : Nat) (k v : VV) (e : Tr Value) (H : AHeap) : Prop := ∃ o1 nx1 lg1, H = ⟨o1, nx1, lg1⟩ ∧ e.get 0 = some (.pointer (some ⟨i, 0, none⟩)) ∧ e.get 4 = some (.pointer (some ⟨nx, 0, none⟩)) ∧ e.get 5 = some (.pointer (some ⟨nx + 1, 0, none⟩)) ∧
  o1.get nx = some (.row [.int .u8 k.1, .int .i64 k.2] 29 0 true) ∧ o1.get (nx + 1) = some (.row [.int .u8 v.1, .int .i64 v.2] 29 0 true) ∧ (∀ b, b < nx → o1.get b = o.get b) ∧ nx + 2 ≤ nx1 ∧ lg1.all (fun b => Nat.ble nx b) = true
/-- .. where the key is new and the dead are gone -/
def TailI (o : Tr AObj) (nx i m : Nat) (a : Option Nat) (k v : VV) (l : List (VV × VV)) (e : Tr Value) (H : AHeap) : Prop := ∃ o1 nx1 lg1, H = ⟨o1, nx1, lg1⟩ ∧ e.get 0 = some (.pointer (some ⟨i, 0, none⟩)) ∧ e.get 4 = some (.pointer (some ⟨nx, 0, none⟩)) ∧ e.get 5 = some (.pointer (some ⟨nx + 1, 0, none⟩)) ∧
  o1.get nx = some (.row [.int .u8 k.1, .int .i64 k.2] 29 0 true) ∧ o1.get (nx + 1) = some (.row [.int .u8 v.1, .int .i64 v.2] 29 0 true) ∧ nx + 2 ≤ nx1 ∧ TabIn o1 nx1 i m a l ∧ ∀ b, b < nx → ¬ Mine i m a b → o1.get b = o.get b
set_option maxHeartbeats 4000000 in
theorem set_log (hO : Clear O) {i m : Nat} {a : Option Nat} {l : List (VV × VV)} (h : TabIn o nx i m a l) {k v : VV} (hok : MaySet k v) (hn : l.length < n) (hbig : l.length < 65536) :
    Got (oCall Tryz.prog [] O (n + 4) 20 [.pointer (some ⟨i, 0, none⟩), vv k, vv v] ⟨o, nx, lg⟩) (SetDoneL o nx lg i m a l (setL l k v)) := by
  obtain ⟨z, hrow⟩ := h.row
  obtain ⟨es, c, he, hmap⟩ := h.ents
  have hi := h.lt
  have hm := h.ltm
  have ze := ze_3
  have pk := fun n o nx lg => plain_ok (n := n) (o := o) (nx := nx) (lg := lg) hO k
  have pv := fun n o nx lg => plain_ok (n := n) (o := o) (nx := nx) (lg := lg) hO v
  rw [hok.pk] at pk; rw [hok.pv] at pv
  simp only [vv] at pk pv
  rw [y_fn (rs := [.tmp 6]) (hO _ (by decide)) Tryz.func20 rfl (by kernel_rfl) rfl rfl]
  refine y_cut (I := SetI o nx i k v) ?_ ?_
  · simp (maxDischargeDepth := 6) only [sy3.1, zY, qG, qP, qQ, qR, qS, qT, rowAt, ↓jg, ↓ji, Nat.reduceAdd, Nat.reduceEqDiff, ne_eq, jG, Nat.reduceLT, if_true, ite_true, Int.reduceLE, Int.reduceLT, Int.reduceEq, Int.reduceNeg, Int.reduceAdd, Nat.reduceSub, if_false, ite_false, fs_20.1, vv]
    refine ⟨_, _, rfl, _, _, _, rfl, ?_, ?_, ?_, ?_, ?_, fun b hb => ?_, ?_, ?_⟩
    · simp (maxDischargeDepth := 6) only [sy3.1, zY, qG, qP, qQ, qR, qS, qT, rowAt, ↓jg, ↓ji, Nat.reduceAdd, Nat.reduceEqDiff, ne_eq, jG, Nat.reduceLT, if_true, ite_true, Int.reduceLE, Int.reduceLT, Int.reduceEq, Int.reduceNeg, Int.reduceAdd, Nat.reduceSub, if_false, ite_false, fs_20.1]
    · simp (maxDischargeDepth := 6) only [sy3.1, zY, qG, qP, qQ, qR, qS, qT, rowAt, ↓jg, ↓ji, Nat.reduceAdd, Nat.reduceEqDiff, ne_eq, jG, Nat.reduceLT, if_true, ite_true, Int.reduceLE, Int.reduceLT, Int.reduceEq, Int.reduceNeg, Int.reduceAdd, Nat.reduceSub, if_false, ite_false, fs_20.1]
    · simp (maxDischargeDepth := 6) only [sy3.1, zY, qG, qP, qQ, qR, qS, qT, rowAt, ↓jg, ↓ji, Nat.reduceAdd, Nat.reduceEqDiff, ne_eq, jG, Nat.reduceLT, if_true, ite_true, Int.reduceLE, Int.reduceLT, Int.reduceEq, Int.reduceNeg, Int.reduceAdd, Nat.reduceSub, if_false, ite_false, fs_20.1]
    · simp (maxDischargeDepth := 6) only [sy3.1, zY, qG, qP, qQ, qR, qS, qT, rowAt, ↓jg, ↓ji, Nat.reduceAdd, Nat.reduceEqDiff, ne_eq, jG, Nat.reduceLT, if_true, ite_true, Int.reduceLE, Int.reduceLT, Int.reduceEq, Int.reduceNeg, Int.reduceAdd, Nat.reduceSub, if_false, ite_false, fs_20.1]
    · simp (maxDischargeDepth := 6) only [sy3.1, zY, qG, qP, qQ, qR, qS, qT, rowAt, ↓jg, ↓ji, Nat.reduceAdd, Nat.reduceEqDiff, ne_eq, jG, Nat.reduceLT, if_true, ite_true, Int.reduceLE, Int.reduceLT, Int.reduceEq, Int.reduceNeg, Int.reduceAdd, Nat.reduceSub, if_false, ite_false, fs_20.1]
    · rw [qF _ _ _ _ (by omega), qF _ _ _ _ (by omega)]
    · omega
    · rfl
  rintro e0 H0 ⟨o1, nx1, lg1, rfl, g0, g4, g5, r4, r5, hold, hnx1, hlg1⟩
  have hi1 := (hold i hi).trans hrow
  refine y_cut (I := SetI o nx i k v) ?_ ?_
  · rw [zm]
    refine y_cut (I := fun e h => SetI o nx i k v e h ∧ e.get 11 = some (.bool false)) ?_ ?_
    · simp (maxDischargeDepth := 6) only [sy3.1, zY, qG, qP, qQ, qR, qS, qT, rowAt, ↓jg, ↓ji, Nat.reduceAdd, Nat.reduceEqDiff, ne_eq, jG, Nat.reduceLT, if_true, ite_true, Int.reduceLE, Int.reduceLT, Int.reduceEq, Int.reduceNeg, Int.reduceAdd, Nat.reduceSub, if_false, ite_false, fs_20.1, g0, right_ok hO hi1]
      refine ⟨_, _, rfl, ⟨_, _, _, rfl, ?_, ?_, ?_, r4, r5, hold, by omega, hlg1⟩, ?_⟩ <;> simp (maxDischargeDepth := 6) only [sy3.1, zY, qG, qP, qQ, qR, qS, qT, rowAt, ↓jg, ↓ji, Nat.reduceAdd, Nat.reduceEqDiff, ne_eq, jG, Nat.reduceLT, if_true, ite_true, Int.reduceLE, Int.reduceLT, Int.reduceEq, Int.reduceNeg, Int.reduceAdd, Nat.reduceSub, if_false, ite_false, fs_20.1, g0, g4, g5]
    rintro e1 H1 ⟨⟨o2, nx2, lg2, rfl, g0, g4, g5, r4, r5, hold, hnx2, hlg2⟩, g11⟩
    rw [zd]
    simp (maxDischargeDepth := 6) only [qz, g11, Option.getD_some, qP, qL, ↓ji]
    refine y_cut (I := fun e h => SetI o nx i k v e h ∧ e.get 15 = some (.bool false)) ?_ ?_
    · refine s_region rfl ?_
      repeat (first | (refine s_else ?_) | ((first | apply s_op | apply s_guard | apply s_then); (simp (maxDischargeDepth := 6) only [za, zb, zd, zg, zh, zj, zl, zm, zn, zp, zq, zr, zu, zw, zx, zy, zA, zB, zC, zD, zE, zF, zG, zH, zI, zJ, zK, zL, zM, zN, zO, zP, zQ, zR, zS, zT, zU, zV, zW, List.any_nil, zX, List.isEmpty_nil, Bool.true_or, Bool.or_true, zY, zZ, qb, qc, qd, qe, qf, qg, qh, qi, qj, qk, qo, qp, qr, qs, qt, qu, qx, qy, qz, qA, qB, qC, qD, qE, qF, Tr.get_nil, qG, qH, qI, qJ, qK, qL, qM, qN, qO, qP, qQ, qR, qS, qT, qU, qV, qW, qX, qY, qZ, ja, jb, jc, jd, rowAt, Option.getD_some, Option.getD_none, Option.bind_some, Option.bind_none, Option.map_some, Option.map_none, ↓jg, ↓ji, List.length_cons, List.length_nil, List.getElem?_cons_succ, List.getElem?_cons_zero, Nat.reduceAdd, Nat.reduceEqDiff, ne_eq, not_false_eq_true, Nat.add_zero, Nat.zero_add, Nat.add_assoc, List.map_cons, List.map_nil, List.nil_append, List.append_nil, List.cons_append, Bool.not_true, Bool.not_false, jk, jn, jo, jp, jq, jr, Nat.add_left_cancel_iff, js, List.all_nil, jt, ju, Bool.and_self, Bool.and_true, Bool.true_and, true_and, and_true, jv, jw, jx, jy, jz, jA, jB, jC, jD, jE, jF, jG, jH, jI, jJ, jK, jL, jM, jN, jO, jP, jQ, jR, jS, jT, jU, jV, jW, jX, jY, jZ, Ja, List.set_cons_zero, List.set_cons_succ, Nat.reduceLT, and_self, if_true, ite_true, List.size_toArray, Nat.lt_add_one, Nat.zero_lt_succ, List.getElem?_toArray, Jb, Jc, Jd, Je, Jf, Jg, Jh, Ji, Jj, Jk, Jl, Int.reduceLE, Int.reduceLT, Int.reduceEq, Int.reduceNeg, Int.reduceAdd, decide_true, decide_false, Jm, Jn, Jo, Jp, Jq, Jr, Bool.or_false, Bool.false_or, Bool.false_and, Bool.and_false, Bool.or_self, Js, Jt, Ju, Jv, Jw, Jx, Jy, Jz, JA, JB, JC, JD, JE, JF, JG, JH, JI, JJ, JK, JL, JM, JN, JO, JP, JQ, JR, JS, JT, JU, JV, JW, JX, JY, JZ, Nat.reduceSub, if_false, ite_false, calleeV_func _ _ _ co_59, fo_29_0, aLoad_one ld_27, aLoad_agg ld_29, calleeV_func _ _ _ co_61, fo_98_1, aLoad_one ld_95, fo_98_0, aLoad_one ld_96, st_indexAddr _ el_96, fo_102_1, aStore_at sz_29, calleeV_func _ _ _ co_22, calleeV_func _ _ _ co_62, calleeV_func _ _ _ co_63, calleeV_func _ _ _ co_64, aStore_at sz_96, lenV_slice Tryz.underlying96, aLoad_agg ld_102, ze_102, aStore_at sz_102, fo_102_0, bu_102_0_1, st_append ez_96, g0, g4, g5, r4, r5, pk, pv, decide_eq_false hok.k0, decide_eq_false hok.k8, decide_eq_false hok.v8]; exact rfl)))
      refine s_nil ?_
      refine ⟨_, _, rfl, ⟨_, _, _, rfl, ?_, ?_, ?_, r4, r5, hold, by omega, hlg2⟩, ?_⟩ <;> simp (maxDischargeDepth := 6) only [sy3.1, zY, qG, qP, qQ, qR, qS, qT, rowAt, ↓jg, ↓ji, Nat.reduceAdd, Nat.reduceEqDiff, ne_eq, jG, Nat.reduceLT, if_true, ite_true, Int.reduceLE, Int.reduceLT, Int.reduceEq, Int.reduceNeg, Int.reduceAdd, Nat.reduceSub, if_false, ite_false, fs_20.1, g0, g4, g5]
    rintro e2 H2 ⟨⟨o3, nx3, lg3, rfl, g0, g4, g5, r4, r5, hold, hnx3, hlg3⟩, g15⟩
    simp (maxDischargeDepth := 6) only [sy3.1, zY, qG, qP, qQ, qR, qS, qT, rowAt, ↓jg, ↓ji, Nat.reduceAdd, Nat.reduceEqDiff, ne_eq, jG, Nat.reduceLT, if_true, ite_true, Int.reduceLE, Int.reduceLT, Int.reduceEq, Int.reduceNeg, Int.reduceAdd, Nat.reduceSub, if_false, ite_false, fs_20.1, g15]
    exact ⟨_, _, rfl, _, _, _, rfl, g0, g4, g5, r4, r5, hold, hnx3, hlg3⟩
  rintro e3 H3 ⟨o4, nx4, lg4, rfl, g0, g4, g5, r4, r5, hold, hnx4, hlg4⟩
  have hi4 := (hold i hi).trans hrow
  have hm4 := (hold m hm).trans he
  have hl : ∀ H : AHeap, H.get m = some (.map es c) → aLookup Tryz.prog 95 (.map (some m)) (.agg #[.int .u8 k.1, .int .i64 k.2]) true H = _ := fun H hg => aLookup_by key_vv Tryz.underlying95 ze hg hmap k true
  rcases kv_find k l 0 0 with ⟨h1, h2⟩ | ⟨r, u, h1, h2, h3⟩
  · rw [h1] at hl
    have hpos : posL l k = none := by unfold posL; rw [h1]; rfl
    unfold setL; rw [hpos]
    refine y_cut (I := SetI o nx i k v) ?_ ?_
    · simp (maxDischargeDepth := 6) only [sy3.1, zY, qG, qP, qQ, qR, qS, qT, rowAt, ↓jg, ↓ji, Nat.reduceAdd, Nat.reduceEqDiff, ne_eq, jG, Nat.reduceLT, if_true, ite_true, Int.reduceLE, Int.reduceLT, Int.reduceEq, Int.reduceNeg, Int.reduceAdd, Nat.reduceSub, if_false, ite_false, fs_20.1, g0, g4, g5, hi4, hm4, r4, hl]
      refine ⟨_, _, rfl, _, _, _, rfl, ?_, ?_, ?_, r4, r5, hold, by omega, ?_⟩ <;> simp (maxDischargeDepth := 6) only [sy3.1, zY, qG, qP, qQ, qR, qS, qT, rowAt, ↓jg, ↓ji, Nat.reduceAdd, Nat.reduceEqDiff, ne_eq, jG, Nat.reduceLT, if_true, ite_true, Int.reduceLE, Int.reduceLT, Int.reduceEq, Int.reduceNeg, Int.reduceAdd, Nat.reduceSub, if_false, ite_false, fs_20.1, g0, g4, g5, hlg4, all_relogL]
    rintro e4 H4 ⟨o5, nx5, lg5, rfl, g0, g4, g5, r4, r5, hold, hnx5, hlg5⟩
    by_cases hv0 : v.1 = 0
    · simp only [hv0, if_true]
      rw [hv0] at r5
      simp (maxDischargeDepth := 6) only [za, zb, zd, zg, zh, zj, zl, zm, zn, zp, zq, zr, zu, zw, zx, zy, zA, zB, zC, zD, zE, zF, zG, zH, zI, zJ, zK, zL, zM, zN, zO, zP, zQ, zR, zS, zT, zU, zV, zW, List.any_nil, zX, List.isEmpty_nil, Bool.true_or, Bool.or_true, zY, zZ, qb, qc, qd, qe, qf, qg, qh, qi, qj, qk, qo, qp, qr, qs, qt, qu, qx, qy, qz, qA, qB, qC, qD, qE, qF, Tr.get_nil, qG, qH, qI, qJ, qK, qL, qM, qN, qO, qP, qQ, qR, qS, qT, qU, qV, qW, qX, qY, qZ, ja, jb, jc, jd, rowAt, Option.getD_some, Option.getD_none, Option.bind_some, Option.bind_none, Option.map_some, Option.map_none, ↓jg, ↓ji, List.length_cons, List.length_nil, List.getElem?_cons_succ, List.getElem?_cons_zero, Nat.reduceAdd, Nat.reduceEqDiff, ne_eq, not_false_eq_true, Nat.add_zero, Nat.zero_add, Nat.add_assoc, List.map_cons, List.map_nil, List.nil_append, List.append_nil, List.cons_append, Bool.not_true, Bool.not_false, jk, jn, jo, jp, jq, jr, Nat.add_left_cancel_iff, js, List.all_nil, jt, ju, Bool.and_self, Bool.and_true, Bool.true_and, true_and, and_true, jv, jw, jx, jy, jz, jA, jB, jC, jD, jE, jF, jG, jH, jI, jJ, jK, jL, jM, jN, jO, jP, jQ, jR, jS, jT, jU, jV, jW, jX, jY, jZ, Ja, List.set_cons_zero, List.set_cons_succ, Nat.reduceLT, and_self, if_true, ite_true, List.size_toArray, Nat.lt_add_one, Nat.zero_lt_succ, List.getElem?_toArray, Jb, Jc, Jd, Je, Jf, Jg, Jh, Ji, Jj, Jk, Jl, Int.reduceLE, Int.reduceLT, Int.reduceEq, Int.reduceNeg, Int.reduceAdd, decide_true, decide_false, Jm, Jn, Jo, Jp, Jq, Jr, Bool.or_false, Bool.false_or, Bool.false_and, Bool.and_false, Bool.or_self, Js, Jt, Ju, Jv, Jw, Jx, Jy, Jz, JA, JB, JC, JD, JE, JF, JG, JH, JI, JJ, JK, JL, JM, JN, JO, JP, JQ, JR, JS, JT, JU, JV, JW, JX, JY, JZ, Nat.reduceSub, if_false, ite_false, calleeV_func _ _ _ co_59, fo_29_0, aLoad_one ld_27, aLoad_agg ld_29, calleeV_func _ _ _ co_61, fo_98_1, aLoad_one ld_95, fo_98_0, aLoad_one ld_96, st_indexAddr _ el_96, fo_102_1, aStore_at sz_29, calleeV_func _ _ _ co_22, calleeV_func _ _ _ co_62, calleeV_func _ _ _ co_63, calleeV_func _ _ _ co_64, aStore_at sz_96, lenV_slice Tryz.underlying96, aLoad_agg ld_102, ze_102, aStore_at sz_102, fo_102_0, bu_102_0_1, st_append ez_96, g0, g4, g5, r5, hv0]
      exact ⟨o, nx, lg, a, Ja hlg5 rfl, h, Nat.le_refl _, fun _ _ _ => rfl, .inl rfl, fun _ h => h, .inr ⟨rfl, rfl, rfl, rfl, rfl⟩⟩
    simp only [hv0, if_false]
    refine y_cut (I := SetI o nx i k v) ?_ ?_
    · simp (maxDischargeDepth := 6) only [sy3.1, zY, qG, qP, qQ, qR, qS, qT, rowAt, ↓jg, ↓ji, Nat.reduceAdd, Nat.reduceEqDiff, ne_eq, jG, Nat.reduceLT, if_true, ite_true, Int.reduceLE, Int.reduceLT, Int.reduceEq, Int.reduceNeg, Int.reduceAdd, Nat.reduceSub, if_false, ite_false, fs_20.1, g0, g4, g5, r5, decide_eq_false hv0]
      refine ⟨_, _, rfl, _, _, _, rfl, ?_, ?_, ?_, r4, r5, hold, by omega, hlg5⟩ <;> simp (maxDischargeDepth := 6) only [sy3.1, zY, qG, qP, qQ, qR, qS, qT, rowAt, ↓jg, ↓ji, Nat.reduceAdd, Nat.reduceEqDiff, ne_eq, jG, Nat.reduceLT, if_true, ite_true, Int.reduceLE, Int.reduceLT, Int.reduceEq, Int.reduceNeg, Int.reduceAdd, Nat.reduceSub, if_false, ite_false, fs_20.1, g0, g4, g5]
    rintro e5 H5 ⟨o6, nx6, lg6, rfl, g0, g4, g5, r4, r5, hold, hnx6, hlg6⟩
    have hcnt := fun nx' lg' (hh : nx ≤ nx') => count_ok hO (n := n + 1) (o := o6) (nx := nx') (lg := lg') ((h.more hh hold).at) (by omega) (by omega)
    have hfl : ((l.filter fun p => decide (p.2.1 ≠ 0)).length) ≤ l.length := List.length_filter_le _ _
    obtain ⟨cc, hcc⟩ : ∃ cc, (l.filter fun p => decide (p.2.1 ≠ 0)).length = cc := ⟨_, rfl⟩
    rw [hcc] at hcnt hfl
    have hdc : decide ((65536 : Int) ≤ Int.ofNat cc) = false := decide_eq_false (by simp only [Int.ofNat_eq_natCast]; omega)
    have le6 : ∀ q, (nx ≤ nx6 + q) = True := fun q => eq_true (by omega)
    refine y_cut (I := SetI o nx i k v) ?_ ?_
    · simp (maxDischargeDepth := 6) only [sy3.1, zY, qG, qP, qQ, qR, qS, qT, rowAt, ↓jg, ↓ji, Nat.reduceAdd, Nat.reduceEqDiff, ne_eq, jG, Nat.reduceLT, if_true, ite_true, Int.reduceLE, Int.reduceLT, Int.reduceEq, Int.reduceNeg, Int.reduceAdd, Nat.reduceSub, if_false, ite_false, fs_20.1, g0, hcnt, le6, hdc]
      refine ⟨_, _, rfl, _, _, _, rfl, ?_, ?_, ?_, r4, r5, hold, by omega, hlg6⟩ <;> simp (maxDischargeDepth := 6) only [sy3.1, zY, qG, qP, qQ, qR, qS, qT, rowAt, ↓jg, ↓ji, Nat.reduceAdd, Nat.reduceEqDiff, ne_eq, jG, Nat.reduceLT, if_true, ite_true, Int.reduceLE, Int.reduceLT, Int.reduceEq, Int.reduceNeg, Int.reduceAdd, Nat.reduceSub, if_false, ite_false, fs_20.1, g0, g4, g5]
    rintro e6 H6 ⟨o7, nx7, lg7, rfl, g0, g4, g5, r4, r5, hold, hnx7, hlg7⟩
    have hpl : ∀ nx', nx ≤ nx' → PlacesAt o7 nx' (a.map fun j => ⟨j, 0, none⟩) l := fun nx' hh => by
      rcases (h.more hh hold).cells with ⟨_, rfl⟩ | ⟨j, rest, rfl, h1, h2, h3, h4⟩
      · exact .inl rfl
      · exact .inr ⟨j, 0, _, _, _, _, rfl, h1, h4, fun r p hp => by rw [Nat.zero_add]; exact cut_place hp rest⟩
    have hcon := fun nx' lg' (hh : nx ≤ nx') => contains_ok hO (n := n) (o := o7) (nx := nx') (lg := lg') (c := 0) (hpl nx' hh) (by omega) (by omega)
    have hi7 := (hold i hi).trans hrow
    have hm7 := (hold m hm).trans he
    have le7 : ∀ q, (nx ≤ nx7 + q) = True := fun q => eq_true (by omega)
    have hi7n : i < nx7 := by omega
    have hm7n : m < nx7 := by omega
    refine y_cut (I := TailI o nx i m a k v (liveL l)) ?_ ?_
    · cases hany : l.any isDead with
      | false =>
        rw [hany] at hcon
        have hll : liveL l = l := List.filter_eq_self.2 fun q hq => by
          have := List.any_eq_false.1 hany q hq
          simpa using this
        simp (maxDischargeDepth := 6) only [sy3.1, zY, qG, qP, qQ, qR, qS, qT, rowAt, ↓jg, ↓ji, Nat.reduceAdd, Nat.reduceEqDiff, ne_eq, jG, Nat.reduceLT, if_true, ite_true, Int.reduceLE, Int.reduceLT, Int.reduceEq, Int.reduceNeg, Int.reduceAdd, Nat.reduceSub, if_false, ite_false, fs_20.1, g0, hi7, hcon, le7]
        refine ⟨_, _, rfl, _, _, _, rfl, ?_, ?_, ?_, r4, r5, by omega, ?_, fun b hb _ => hold b hb⟩
        · simp (maxDischargeDepth := 6) only [sy3.1, zY, qG, qP, qQ, qR, qS, qT, rowAt, ↓jg, ↓ji, Nat.reduceAdd, Nat.reduceEqDiff, ne_eq, jG, Nat.reduceLT, if_true, ite_true, Int.reduceLE, Int.reduceLT, Int.reduceEq, Int.reduceNeg, Int.reduceAdd, Nat.reduceSub, if_false, ite_false, fs_20.1, g0]
        · simp (maxDischargeDepth := 6) only [sy3.1, zY, qG, qP, qQ, qR, qS, qT, rowAt, ↓jg, ↓ji, Nat.reduceAdd, Nat.reduceEqDiff, ne_eq, jG, Nat.reduceLT, if_true, ite_true, Int.reduceLE, Int.reduceLT, Int.reduceEq, Int.reduceNeg, Int.reduceAdd, Nat.reduceSub, if_false, ite_false, fs_20.1, g4]
        · simp (maxDischargeDepth := 6) only [sy3.1, zY, qG, qP, qQ, qR, qS, qT, rowAt, ↓jg, ↓ji, Nat.reduceAdd, Nat.reduceEqDiff, ne_eq, jG, Nat.reduceLT, if_true, ite_true, Int.reduceLE, Int.reduceLT, Int.reduceEq, Int.reduceNeg, Int.reduceAdd, Nat.reduceSub, if_false, ite_false, fs_20.1, g5]
        · rw [hll]; exact h.more (by omega) hold
      | true =>
        rw [hany] at hcon
        refine y_cut (I := fun e h => SetI o nx i k v e h ∧ e.get 67 = some (.bool true)) ?_ ?_
        · simp (maxDischargeDepth := 6) only [sy3.1, zY, qG, qP, qQ, qR, qS, qT, rowAt, ↓jg, ↓ji, Nat.reduceAdd, Nat.reduceEqDiff, ne_eq, jG, Nat.reduceLT, if_true, ite_true, Int.reduceLE, Int.reduceLT, Int.reduceEq, Int.reduceNeg, Int.reduceAdd, Nat.reduceSub, if_false, ite_false, fs_20.1, g0, hi7, hcon, le7]
          refine ⟨_, _, rfl, ⟨_, _, _, rfl, ?_, ?_, ?_, r4, r5, hold, by omega, hlg7⟩, ?_⟩ <;> simp (maxDischargeDepth := 6) only [sy3.1, zY, qG, qP, qQ, qR, qS, qT, rowAt, ↓jg, ↓ji, Nat.reduceAdd, Nat.reduceEqDiff, ne_eq, jG, Nat.reduceLT, if_true, ite_true, Int.reduceLE, Int.reduceLT, Int.reduceEq, Int.reduceNeg, Int.reduceAdd, Nat.reduceSub, if_false, ite_false, fs_20.1, g0, g4, g5]
        rintro e7 H7 ⟨⟨o8, nx8, lg8, rfl, g0, g4, g5, r4, r5, hold, hnx8, hlg8⟩, g67⟩
        rw [zd]
        simp (maxDischargeDepth := 6) only [qz, g67, Option.getD_some, qP, qL, ↓jg]
        obtain ⟨j, rest, rfl, hj, hji, hjm, hcells⟩ : ∃ j rest, a = some j ∧ j < nx ∧ j ≠ i ∧ j ≠ m ∧ o.get j = some (.row (cellsOf l ++ rest) 102 4 true) := by
          rcases h.cells with ⟨_, rfl⟩ | hc
          · exact absurd hany (by decide)
          · exact hc
        simp only [Option.map_some] at hrow
        have hi8 := (hold i hi).trans hrow
        have hj8 := (hold j hj).trans hcells
        have hm8 := (hold m hm).trans he
        let K := fun (e : Tr Value) (h : AHeap) => ∃ o' nx' lg' rest', h = (⟨o', nx', lg'⟩ : AHeap) ∧ e.get 0 = some (.pointer (some ⟨i, 0, none⟩)) ∧ e.get 4 = some (.pointer (some ⟨nx, 0, none⟩)) ∧ e.get 5 = some (.pointer (some ⟨nx + 1, 0, none⟩)) ∧
          o'.get nx = some (.row [.int .u8 k.1, .int .i64 k.2] 29 0 true) ∧ o'.get (nx + 1) = some (.row [.int .u8 v.1, .int .i64 v.2] 29 0 true) ∧ nx + 2 ≤ nx' ∧
          o'.get i = some (.row [.slice (some ⟨j, 0, none⟩) (liveL l).length 0, .map (some m)] 98 z true) ∧ o'.get j = some (.row (cellsOf (liveL l) ++ rest') 102 4 true) ∧ ∀ b, b < nx → ¬ Mine i m (some j) b → o'.get b = o.get b
        refine y_cut (I := fun e h => K e h ∧ h.get m = some (.map es c)) ?_ ?_
        · refine s_region rfl ?_
          refine s_op (by (simp (maxDischargeDepth := 6) only [sy3.1, zY, qG, qP, qQ, qR, qS, qT, rowAt, ↓jg, ↓ji, Nat.reduceAdd, Nat.reduceEqDiff, ne_eq, jG, Nat.reduceLT, if_true, ite_true, Int.reduceLE, Int.reduceLT, Int.reduceEq, Int.reduceNeg, Int.reduceAdd, Nat.reduceSub, if_false, ite_false, fs_20.1, g0]; exact rfl)) ?_
          refine s_op (by (simp (maxDischargeDepth := 6) only [sy3.1, zY, qG, qP, qQ, qR, qS, qT, rowAt, ↓jg, ↓ji, Nat.reduceAdd, Nat.reduceEqDiff, ne_eq, jG, Nat.reduceLT, if_true, ite_true, Int.reduceLE, Int.reduceLT, Int.reduceEq, Int.reduceNeg, Int.reduceAdd, Nat.reduceSub, if_false, ite_false, fs_20.1, g0]; exact rfl)) ?_
          refine s_op (by (simp (maxDischargeDepth := 6) only [sy3.1, zY, qG, qP, qQ, qR, qS, qT, rowAt, ↓jg, ↓ji, Nat.reduceAdd, Nat.reduceEqDiff, ne_eq, jG, Nat.reduceLT, if_true, ite_true, Int.reduceLE, Int.reduceLT, Int.reduceEq, Int.reduceNeg, Int.reduceAdd, Nat.reduceSub, if_false, ite_false, fs_20.1, g0]; exact rfl)) ?_
          refine s_op (by (simp (maxDischargeDepth := 6) only [sy3.1, zY, qG, qP, qQ, qR, qS, qT, rowAt, ↓jg, ↓ji, Nat.reduceAdd, Nat.reduceEqDiff, ne_eq, jG, Nat.reduceLT, if_true, ite_true, Int.reduceLE, Int.reduceLT, Int.reduceEq, Int.reduceNeg, Int.reduceAdd, Nat.reduceSub, if_false, ite_false, fs_20.1, g0]; exact rfl)) ?_
          refine s_op (by (simp (maxDischargeDepth := 6) only [sy3.1, zY, qG, qP, qQ, qR, qS, qT, rowAt, ↓jg, ↓ji, Nat.reduceAdd, Nat.reduceEqDiff, ne_eq, jG, Nat.reduceLT, if_true, ite_true, Int.reduceLE, Int.reduceLT, Int.reduceEq, Int.reduceNeg, Int.reduceAdd, Nat.reduceSub, if_false, ite_false, fs_20.1, g0, hi8]; exact rfl)) ?_
          refine s_do _ (by
            simp (maxDischargeDepth := 6) only [sy3.1, zY, qG, qP, qQ, qR, qS, qT, rowAt, ↓jg, ↓ji, Nat.reduceAdd, Nat.reduceEqDiff, ne_eq, jG, Nat.reduceLT, if_true, ite_true, Int.reduceLE, Int.reduceLT, Int.reduceEq, Int.reduceNeg, Int.reduceAdd, Nat.reduceSub, if_false, ite_false, fs_20.1, g0]
            exact delete_ok hO (o := o8) (j := j) (l := l) (rest := rest) (by omega) hj8 hany hn (by omega)) ?_
          rintro v1 H8 ⟨o9, nx9, lg9, rest', heq, hn9, hj9, hfr9⟩
          cases heq
          have hi9 := (hfr9 i (by omega) (Ne.symm hji)).trans hi8
          have hm9 := (hfr9 m (by omega) (Ne.symm hjm)).trans hm8
          refine s_op (by (simp (maxDischargeDepth := 6) only [sy3.1, zY, qG, qP, qQ, qR, qS, qT, rowAt, ↓jg, ↓ji, Nat.reduceAdd, Nat.reduceEqDiff, ne_eq, jG, Nat.reduceLT, if_true, ite_true, Int.reduceLE, Int.reduceLT, Int.reduceEq, Int.reduceNeg, Int.reduceAdd, Nat.reduceSub, if_false, ite_false, fs_20.1, g0]; exact rfl)) ?_
          refine s_op (by (simp (maxDischargeDepth := 6) only [sy3.1, zY, qG, qP, qQ, qR, qS, qT, rowAt, ↓jg, ↓ji, Nat.reduceAdd, Nat.reduceEqDiff, ne_eq, jG, Nat.reduceLT, if_true, ite_true, Int.reduceLE, Int.reduceLT, Int.reduceEq, Int.reduceNeg, Int.reduceAdd, Nat.reduceSub, if_false, ite_false, fs_20.1, g0]; exact rfl)) ?_
          refine s_op (by (simp (maxDischargeDepth := 6) only [sy3.1, zY, qG, qP, qQ, qR, qS, qT, rowAt, ↓jg, ↓ji, Nat.reduceAdd, Nat.reduceEqDiff, ne_eq, jG, Nat.reduceLT, if_true, ite_true, Int.reduceLE, Int.reduceLT, Int.reduceEq, Int.reduceNeg, Int.reduceAdd, Nat.reduceSub, if_false, ite_false, fs_20.1, g0, hi9]; exact rfl)) ?_
          refine s_nil ?_
          refine ⟨_, _, rfl, ⟨_, _, _, rest', rfl, ?_, ?_, ?_, ?_, ?_, by omega, ?_, ?_, fun b hb hbm => ?_⟩, ?_⟩
          · simp (maxDischargeDepth := 6) only [sy3.1, zY, qG, qP, qQ, qR, qS, qT, rowAt, ↓jg, ↓ji, Nat.reduceAdd, Nat.reduceEqDiff, ne_eq, jG, Nat.reduceLT, if_true, ite_true, Int.reduceLE, Int.reduceLT, Int.reduceEq, Int.reduceNeg, Int.reduceAdd, Nat.reduceSub, if_false, ite_false, fs_20.1, g0]
          · simp (maxDischargeDepth := 6) only [sy3.1, zY, qG, qP, qQ, qR, qS, qT, rowAt, ↓jg, ↓ji, Nat.reduceAdd, Nat.reduceEqDiff, ne_eq, jG, Nat.reduceLT, if_true, ite_true, Int.reduceLE, Int.reduceLT, Int.reduceEq, Int.reduceNeg, Int.reduceAdd, Nat.reduceSub, if_false, ite_false, fs_20.1, g4]
          · simp (maxDischargeDepth := 6) only [sy3.1, zY, qG, qP, qQ, qR, qS, qT, rowAt, ↓jg, ↓ji, Nat.reduceAdd, Nat.reduceEqDiff, ne_eq, jG, Nat.reduceLT, if_true, ite_true, Int.reduceLE, Int.reduceLT, Int.reduceEq, Int.reduceNeg, Int.reduceAdd, Nat.reduceSub, if_false, ite_false, fs_20.1, g5]
          · rw [qF _ _ _ _ (by omega), hfr9 _ (by omega) (by omega)]; exact r4
          · rw [qF _ _ _ _ (by omega), hfr9 _ (by omega) (by omega)]; exact r5
          · rw [qE]
          · rw [qF _ _ _ _ hji]; exact hj9
          · rw [qF _ _ _ _ (fun e => hbm (.inl e)), hfr9 _ (by omega) (fun e => hbm (.inr (.inr (by rw [e])))), hold b hb]
          · show Tr.get _ m = _
            rw [qF _ _ _ _ h.ne]; exact hm9
        rintro e8 H8 ⟨⟨o9, nx9, lg9, rest1, rfl, g0, g4, g5, r4, r5, hnx9, hi9, hj9, hfr9⟩, hm9⟩
        have hm9 : o9.get m = some (.map es c) := hm9
        refine y_cut (I := fun e h => K e h ∧ h.get m = some (.map [] c)) ?_ ?_
        · simp (maxDischargeDepth := 6) only [sy3.1, zY, qG, qP, qQ, qR, qS, qT, rowAt, ↓jg, ↓ji, Nat.reduceAdd, Nat.reduceEqDiff, ne_eq, jG, Nat.reduceLT, if_true, ite_true, Int.reduceLE, Int.reduceLT, Int.reduceEq, Int.reduceNeg, Int.reduceAdd, Nat.reduceSub, if_false, ite_false, fs_20.1, g0, hi9, st_clear _ Tryz.underlying95, aClear, hm9]
          refine ⟨_, _, rfl, ⟨_, _, _, rest1, rfl, ?_, ?_, ?_, ?_, ?_, by omega, ?_, ?_, fun b hb hbm => ?_⟩, ?_⟩
          · simp (maxDischargeDepth := 6) only [sy3.1, zY, qG, qP, qQ, qR, qS, qT, rowAt, ↓jg, ↓ji, Nat.reduceAdd, Nat.reduceEqDiff, ne_eq, jG, Nat.reduceLT, if_true, ite_true, Int.reduceLE, Int.reduceLT, Int.reduceEq, Int.reduceNeg, Int.reduceAdd, Nat.reduceSub, if_false, ite_false, fs_20.1, g0]
          · simp (maxDischargeDepth := 6) only [sy3.1, zY, qG, qP, qQ, qR, qS, qT, rowAt, ↓jg, ↓ji, Nat.reduceAdd, Nat.reduceEqDiff, ne_eq, jG, Nat.reduceLT, if_true, ite_true, Int.reduceLE, Int.reduceLT, Int.reduceEq, Int.reduceNeg, Int.reduceAdd, Nat.reduceSub, if_false, ite_false, fs_20.1, g4]
          · simp (maxDischargeDepth := 6) only [sy3.1, zY, qG, qP, qQ, qR, qS, qT, rowAt, ↓jg, ↓ji, Nat.reduceAdd, Nat.reduceEqDiff, ne_eq, jG, Nat.reduceLT, if_true, ite_true, Int.reduceLE, Int.reduceLT, Int.reduceEq, Int.reduceNeg, Int.reduceAdd, Nat.reduceSub, if_false, ite_false, fs_20.1, g5]
          · rw [qF _ _ _ _ (by omega)]; exact r4
          · rw [qF _ _ _ _ (by omega)]; exact r5
          · rw [qF _ _ _ _ (Ne.symm h.ne)]; exact hi9
          · rw [qF _ _ _ _ hjm]; exact hj9
          · rw [qF _ _ _ _ (fun e => hbm (.inr (.inl e)))]; exact hfr9 b hb hbm
          · show Tr.get _ m = _
            rw [qE]
        rintro e9 H9 ⟨⟨o10, nx10, lg10, rest2, rfl, g0, g4, g5, r4, r5, hnx10, hi10, hj10, hfr10⟩, hm10⟩
        have hm10 : o10.get m = some (.map [] c) := hm10
        let J := fun (q : Nat) (e : Tr Value) (h : AHeap) => ∃ idx, idx + q = (liveL l).length ∧ K e h ∧ e.get 83 = some (.slice (some ⟨j, 0, none⟩) (liveL l).length 0) ∧ e.get 84 = some (.int .i64 (.ofNat (liveL l).length)) ∧ e.get 85 = some (.int .i64 (.ofNat idx)) ∧
          ∃ es' c', h.get m = some (.map es' c') ∧ MapIs vv es' (kvFrom 0 ((liveL l).take idx))
        have hLl : (liveL l).length ≤ l.length := List.length_filter_le _ _
        have hnd := live_nodup h.nodup
        refine y_cut (I := J (liveL l).length) ?_ ?_
        · simp (maxDischargeDepth := 6) only [sy3.1, zY, qG, qP, qQ, qR, qS, qT, rowAt, ↓jg, ↓ji, Nat.reduceAdd, Nat.reduceEqDiff, ne_eq, jG, Nat.reduceLT, if_true, ite_true, Int.reduceLE, Int.reduceLT, Int.reduceEq, Int.reduceNeg, Int.reduceAdd, Nat.reduceSub, if_false, ite_false, fs_20.1, g0, hi10]
          refine ⟨_, _, rfl, 0, Nat.zero_add _, ⟨_, _, _, rest2, rfl, ?_, ?_, ?_, r4, r5, by omega, hi10, hj10, hfr10⟩, ?_, ?_, ?_, [], c, hm10, rfl⟩
          all_goals simp (maxDischargeDepth := 6) only [sy3.1, zY, qG, qP, qQ, qR, qS, qT, rowAt, ↓jg, ↓ji, Nat.reduceAdd, Nat.reduceEqDiff, ne_eq, jG, Nat.reduceLT, if_true, ite_true, Int.reduceLE, Int.reduceLT, Int.reduceEq, Int.reduceNeg, Int.reduceAdd, Nat.reduceSub, if_false, ite_false, fs_20.1, g0, g4, g5]
          rfl
        rintro e10 H10 hJ
        rw [zm, y_loop_eq]
        refine y_loop (I := J) ?_ _ _ _ _ hJ (by omega)
        rintro q e H ⟨idx, hq, ⟨o', nx', lg', rest3, rfl, g0, g4, g5, r4, r5, hnx', hi', hj', hfr'⟩, g83, g84, g85, es', c', hm', hmap'⟩
        have hm' : o'.get m = some (.map es' c') := hm'
        by_cases hlt : idx < (liveL l).length
        · obtain ⟨p, hp⟩ : ∃ p, (liveL l)[idx]? = some p := ⟨_, List.getElem?_eq_getElem hlt⟩
          have hb : Nat.blt idx (liveL l).length = true := by rw [Nat.blt_eq]; exact hlt
          have hc := cut_place hp rest3
          have hw := wrap_succ idx (by omega)
          have hjn : j < nx' := by omega
          have hmn : m < nx' := by omega
          have hin : i < nx' := by omega
          have hno := findK_new _ 0 0 (not_seen hnd hp)
          have hmu : ∀ H : AHeap, H.get m = some (.map es' c') → aMapUpdate Tryz.prog 95 (.map (some m)) (.agg #[.int .u8 p.1.1, .int .i64 p.1.2]) (.int .i64 (.ofNat idx)) H = _ := fun H hg => mapUpdate_add key_vv Tryz.underlying95 hg hmap' p.1 (.int .i64 (.ofNat idx)) hno
          simp (maxDischargeDepth := 6) only [sy3.1, zY, qG, qP, qQ, qR, qS, qT, rowAt, ↓jg, ↓ji, Nat.reduceAdd, Nat.reduceEqDiff, ne_eq, jG, Nat.reduceLT, if_true, ite_true, Int.reduceLE, Int.reduceLT, Int.reduceEq, Int.reduceNeg, Int.reduceAdd, Nat.reduceSub, if_false, ite_false, fs_20.1, g0, g83, g84, g85, decide_eq_true hlt, hi', hj', hm', indexAt, hb, hc, Option.isNone_none, hw, hmu, hjn, hmn, hin, cut_four2, beq_old hmn, beq_ne (Ne.symm h.ne)]
          have hsnoc : (liveL l).take (idx + 1) = (liveL l).take idx ++ [p] := by rw [List.take_add_one, hp]; rfl
          refine ⟨q - 1, by omega, idx + 1, by omega, ⟨_, _, _, rest3, rfl, ?_, ?_, ?_, ?_, ?_, by omega, ?_, ?_, fun b hb hbm => ?_⟩, ?_, ?_, ?_, es' ++ [{ key := vv p.1, val := .int .i64 (.ofNat idx), born := c' }], c' + 1, ?_, ?_⟩
          · simp (maxDischargeDepth := 6) only [sy3.1, zY, qG, qP, qQ, qR, qS, qT, rowAt, ↓jg, ↓ji, Nat.reduceAdd, Nat.reduceEqDiff, ne_eq, jG, Nat.reduceLT, if_true, ite_true, Int.reduceLE, Int.reduceLT, Int.reduceEq, Int.reduceNeg, Int.reduceAdd, Nat.reduceSub, if_false, ite_false, fs_20.1, g0]
          · simp (maxDischargeDepth := 6) only [sy3.1, zY, qG, qP, qQ, qR, qS, qT, rowAt, ↓jg, ↓ji, Nat.reduceAdd, Nat.reduceEqDiff, ne_eq, jG, Nat.reduceLT, if_true, ite_true, Int.reduceLE, Int.reduceLT, Int.reduceEq, Int.reduceNeg, Int.reduceAdd, Nat.reduceSub, if_false, ite_false, fs_20.1, g4]
          · simp (maxDischargeDepth := 6) only [sy3.1, zY, qG, qP, qQ, qR, qS, qT, rowAt, ↓jg, ↓ji, Nat.reduceAdd, Nat.reduceEqDiff, ne_eq, jG, Nat.reduceLT, if_true, ite_true, Int.reduceLE, Int.reduceLT, Int.reduceEq, Int.reduceNeg, Int.reduceAdd, Nat.reduceSub, if_false, ite_false, fs_20.1, g5]
          · iterate 6 rw [qF _ _ _ _ (by omega)]
            exact r4
          · iterate 6 rw [qF _ _ _ _ (by omega)]
            exact r5
          · rw [qF _ _ _ _ (Ne.symm h.ne)]
            iterate 5 rw [qF _ _ _ _ (by omega)]
            exact hi'
          · rw [qF _ _ _ _ hjm]
            iterate 5 rw [qF _ _ _ _ (by omega)]
            exact hj'
          · rw [qF _ _ _ _ (fun e => hbm (.inr (.inl e)))]
            iterate 5 rw [qF _ _ _ _ (by omega)]
            exact hfr' b hb hbm
          · simp (maxDischargeDepth := 6) only [sy3.1, zY, qG, qP, qQ, qR, qS, qT, rowAt, ↓jg, ↓ji, Nat.reduceAdd, Nat.reduceEqDiff, ne_eq, jG, Nat.reduceLT, if_true, ite_true, Int.reduceLE, Int.reduceLT, Int.reduceEq, Int.reduceNeg, Int.reduceAdd, Nat.reduceSub, if_false, ite_false, fs_20.1, g83]
          · simp (maxDischargeDepth := 6) only [sy3.1, zY, qG, qP, qQ, qR, qS, qT, rowAt, ↓jg, ↓ji, Nat.reduceAdd, Nat.reduceEqDiff, ne_eq, jG, Nat.reduceLT, if_true, ite_true, Int.reduceLE, Int.reduceLT, Int.reduceEq, Int.reduceNeg, Int.reduceAdd, Nat.reduceSub, if_false, ite_false, fs_20.1, g84]
          · simp (maxDischargeDepth := 6) only [sy3.1, zY, qG, qP, qQ, qR, qS, qT, rowAt, ↓jg, ↓ji, Nat.reduceAdd, Nat.reduceEqDiff, ne_eq, jG, Nat.reduceLT, if_true, ite_true, Int.reduceLE, Int.reduceLT, Int.reduceEq, Int.reduceNeg, Int.reduceAdd, Nat.reduceSub, if_false, ite_false, fs_20.1, g85]
          · show Tr.get _ m = _
            rw [qE]
          · rw [hsnoc, kv_snoc, List.length_take, Nat.min_eq_left (Nat.le_of_lt hlt), Nat.zero_add]
            exact hmap'.snoc _ _ _
        · simp (maxDischargeDepth := 6) only [sy3.1, zY, qG, qP, qQ, qR, qS, qT, rowAt, ↓jg, ↓ji, Nat.reduceAdd, Nat.reduceEqDiff, ne_eq, jG, Nat.reduceLT, if_true, ite_true, Int.reduceLE, Int.reduceLT, Int.reduceEq, Int.reduceNeg, Int.reduceAdd, Nat.reduceSub, if_false, ite_false, fs_20.1, g83, g84, g85, decide_eq_false hlt]
          have hidx : idx = (liveL l).length := by omega
          rw [hidx, List.take_length] at hmap'
          refine ⟨_, _, rfl, _, _, _, rfl, ?_, ?_, ?_, r4, r5, by omega, ⟨by omega, by omega, h.ne, ⟨z, hi'⟩, ⟨es', c', hm', hmap'⟩, .inr ⟨j, rest3, rfl, by omega, hji, hjm, hj'⟩, hnd⟩, hfr'⟩
          all_goals simp (maxDischargeDepth := 6) only [sy3.1, zY, qG, qP, qQ, qR, qS, qT, rowAt, ↓jg, ↓ji, Nat.reduceAdd, Nat.reduceEqDiff, ne_eq, jG, Nat.reduceLT, if_true, ite_true, Int.reduceLE, Int.reduceLT, Int.reduceEq, Int.reduceNeg, Int.reduceAdd, Nat.reduceSub, if_false, ite_false, fs_20.1, g0, g4, g5]
    rintro e7 H7 ⟨o8, nx8, lg8, rfl, g0, g4, g5, r4, r5, hnx8, hT, hfr⟩
    obtain ⟨z8, hi8⟩ := hT.row
    obtain ⟨es8, c8, hm8, hmap8⟩ := hT.ents
    have hkn : k ∉ (liveL l).map Prod.fst := by
      intro hm
      have : k ∈ l.map Prod.fst := ((List.filter_sublist).map _).subset hm
      obtain ⟨q, hq, rfl⟩ := List.mem_map.1 this
      have := List.find?_eq_none.1 h2 q hq
      simp at this
    have hno := findK_new _ 0 0 hkn
    have hLl : (liveL l).length ≤ l.length := List.length_filter_le _ _
    have hin : i < nx8 := by omega
    have hmn : m < nx8 := by omega
    have hnn : nx < nx8 := by omega
    have hnn1 : nx + 1 < nx8 := by omega
    have hmu : ∀ H : AHeap, H.get m = some (.map es8 c8) → aMapUpdate Tryz.prog 95 (.map (some m)) (.agg #[.int .u8 k.1, .int .i64 k.2]) (.int .i64 (.ofNat (liveL l).length)) H = _ := fun H hg => mapUpdate_add key_vv Tryz.underlying95 hg hmap8 k (.int .i64 (.ofNat (liveL l).length)) hno
    refine y_cut (I := fun e h => ∃ o9 nx9 lg9, h = (⟨o9, nx9, lg9⟩ : AHeap) ∧ e.get 0 = some (.pointer (some ⟨i, 0, none⟩)) ∧ e.get 4 = some (.pointer (some ⟨nx, 0, none⟩)) ∧ e.get 5 = some (.pointer (some ⟨nx + 1, 0, none⟩)) ∧ nx8 ≤ nx9 ∧
        o9.get m = some (.map (es8 ++ [{ key := vv k, val := .int .i64 (.ofNat (liveL l).length), born := c8 }]) (c8 + 1)) ∧ ∀ b, b ≠ m → o9.get b = o8.get b) ?_ ?_
    · simp (maxDischargeDepth := 6) only [sy3.1, zY, qG, qP, qQ, qR, qS, qT, rowAt, ↓jg, ↓ji, Nat.reduceAdd, Nat.reduceEqDiff, ne_eq, jG, Nat.reduceLT, if_true, ite_true, Int.reduceLE, Int.reduceLT, Int.reduceEq, Int.reduceNeg, Int.reduceAdd, Nat.reduceSub, if_false, ite_false, fs_20.1, g0, g4, hi8, r4, hmu, hm8, hnn, hmn, hin, beq_ne (Ne.symm h.ne), beq_ne (show nx ≠ m from by omega)]
      refine ⟨_, _, rfl, _, _, _, rfl, ?_, ?_, ?_, by omega, ?_, fun b hb => ?_⟩
      · simp (maxDischargeDepth := 6) only [sy3.1, zY, qG, qP, qQ, qR, qS, qT, rowAt, ↓jg, ↓ji, Nat.reduceAdd, Nat.reduceEqDiff, ne_eq, jG, Nat.reduceLT, if_true, ite_true, Int.reduceLE, Int.reduceLT, Int.reduceEq, Int.reduceNeg, Int.reduceAdd, Nat.reduceSub, if_false, ite_false, fs_20.1, g0]
      · simp (maxDischargeDepth := 6) only [sy3.1, zY, qG, qP, qQ, qR, qS, qT, rowAt, ↓jg, ↓ji, Nat.reduceAdd, Nat.reduceEqDiff, ne_eq, jG, Nat.reduceLT, if_true, ite_true, Int.reduceLE, Int.reduceLT, Int.reduceEq, Int.reduceNeg, Int.reduceAdd, Nat.reduceSub, if_false, ite_false, fs_20.1, g4]
      · simp (maxDischargeDepth := 6) only [sy3.1, zY, qG, qP, qQ, qR, qS, qT, rowAt, ↓jg, ↓ji, Nat.reduceAdd, Nat.reduceEqDiff, ne_eq, jG, Nat.reduceLT, if_true, ite_true, Int.reduceLE, Int.reduceLT, Int.reduceEq, Int.reduceNeg, Int.reduceAdd, Nat.reduceSub, if_false, ite_false, fs_20.1, g5]
      · rw [qE]
      · rw [qF _ _ _ _ hb]
    rintro e8 H8 ⟨o9, nx9, lg9, rfl, g0, g4, g5, hnx9, hm9, hfr9⟩
    have hi9 := (hfr9 i (Ne.symm h.ne)).trans hi8
    have r49 := (hfr9 nx (by omega)).trans r4
    have r59 := (hfr9 (nx + 1) (by omega)).trans r5
    have hin : i < nx9 := by omega
    have hmn : m < nx9 := by omega
    have hnn : nx < nx9 := by omega
    have hnn1 : nx + 1 < nx9 := by omega
    have hbs : ∀ fid H, buildSliceV Tryz.prog 96 1 [(0, .agg #[.int .u8 k.1, .int .i64 k.2, .int .u8 v.1, .int .i64 v.2])] fid H = some (.slice (some ⟨fid, 0, none⟩) 1 2, newRowA fid [.int .u8 k.1, .int .i64 k.2, .int .u8 v.1, .int .i64 v.2] 102 4 H) := fun fid H => by kernel_rfl
    have hap : appOf Tryz.prog 96 96 = some (102, 4, 32) := by kernel_rfl
    have hadd : ∀ (H : AHeap) q c, H.get q = some (.row [.int .u8 k.1, .int .i64 k.2, .int .u8 v.1, .int .i64 v.2] 102 4 true) → addCells 4 (.slice (some ⟨q, 0, none⟩) 1 c) H = some (0 + 1, [.int .u8 k.1, .int .i64 k.2, .int .u8 v.1, .int .i64 v.2]) := fun H q c hg => by
      simp only [addCells, hg]; rfl
    have hmapT : MapIs vv (es8 ++ [{ key := vv k, val := .int .i64 (.ofNat (liveL l).length), born := c8 }]) (kvFrom 0 (liveL l ++ [(k, v)])) := by
      rw [kv_snoc, Nat.zero_add]; exact hmap8.snoc _ _ _
    have hndT : ((liveL l ++ [(k, v)]).map Prod.fst).Nodup := by
      rw [List.map_append, List.nodup_append]
      exact ⟨live_nodup h.nodup, by simp, fun x hx y hy e => by simp at hy; subst hy; exact hkn (e ▸ hx)⟩
    have hcellsT : cellsOf (liveL l ++ [(k, v)]) = cellsOf (liveL l) ++ [.int .u8 k.1, .int .i64 k.2, .int .u8 v.1, .int .i64 v.2] := by rw [cells_app]; rfl
    have hlenT : (liveL l ++ [(k, v)]).length = (liveL l).length + 1 := by rw [List.length_append]; rfl
    have hloud : ∀ (o' : Tr AObj) nx' l', ∃ lg', leave ⟨o, nx, lg⟩ (.int .i64 0) ⟨o', nx', relogL l' (noteId i [])⟩ = (.int .i64 0, ⟨o', nx', lg'⟩) ∧ (∀ y, y ∈ lg → y ∈ lg') ∧ i ∈ lg' := fun o' nx' l' => by
      obtain ⟨l2, e, h1, h2⟩ := leave_log (o := o) (o' := o') (nx := nx) (nx' := nx') (lg := lg) (l := relogL l' (noteId i [])) (v := .int .i64 0) (by rw [all_relogL, js, ble_old hi]; simp)
      exact ⟨l2, e, h1, h2 i (by simp only [in_relogL, in_note, true_or, or_true]) hi⟩
    rcases hT.cells with ⟨rfl, hnil⟩ | ⟨j, rest, rfl, hj, hji, hjm, hcells⟩
    · have happ : ∀ (H : AHeap) fid q c, H.get q = some (.row [.int .u8 k.1, .int .i64 k.2, .int .u8 v.1, .int .i64 v.2] 102 4 true) → aAppend Tryz.prog 96 96 (.slice none 0 0) (.slice (some ⟨q, 0, none⟩) 1 c) fid H = some (.slice (some ⟨fid, 0, none⟩) 1 0, newRowA fid [.int .u8 k.1, .int .i64 k.2, .int .u8 v.1, .int .i64 v.2] 102 4 H) := fun H fid q c hg => app_none hap (hadd H q c hg) (by decide)
      rw [hnil] at hi9 hm9 hmapT hndT hcellsT hlenT ⊢
      simp only [Option.map_none, List.length_nil] at hi9
      simp (maxDischargeDepth := 6) only [sy3.1, zY, qG, qP, qQ, qR, qS, qT, rowAt, ↓jg, ↓ji, Nat.reduceAdd, Nat.reduceEqDiff, ne_eq, jG, Nat.reduceLT, if_true, ite_true, Int.reduceLE, Int.reduceLT, Int.reduceEq, Int.reduceNeg, Int.reduceAdd, Nat.reduceSub, if_false, ite_false, fs_20.1, g0, g4, g5, hi9, r49, r59, hnn, hnn1, hmn, hin, st_buildSliceV, hbs, happ, beq_old hin, beq_ne (show nx ≠ i from by omega), beq_ne (show nx + 1 ≠ i from by omega)]
      refine ⟨by kernel_rfl, ?_⟩
      obtain ⟨lg', e, hm1, hm2⟩ := hloud _ _ _
      refine ⟨_, _, lg', some (nx9 + 9), e, ⟨by omega, by omega, h.ne, ⟨z8, ?_⟩, ⟨_, c8 + 1, ?_, hmapT⟩, .inr ⟨nx9 + 9, [], rfl, by omega, by omega, by omega, ?_⟩, hndT⟩, by omega, fun b hb hbm => ?_, .inr ⟨_, rfl, by omega⟩, hm1, .inl ⟨i, hm2, .inl rfl⟩⟩
      · rw [qE]; rfl
      · iterate 3 rw [qF _ _ _ _ (by have := h.ne; omega)]
        exact hm9
      · rw [qF _ _ _ _ (by omega), qE]; rfl
      · rw [qF _ _ _ _ (fun e => hbm (.inl e)), qF _ _ _ _ (by omega), qF _ _ _ _ (by omega), hfr9 b (fun e => hbm (.inr (.inl e)))]
        exact hfr b hb hbm
    · have hj9 := (hfr9 j hjm).trans hcells
      have hjn : j < nx9 := by omega
      have hjx : j < nx := by
        rcases h.cells with ⟨e, _⟩ | ⟨_, _, e, hj, _⟩
        · cases e
        · cases e; exact hj
      have happ : ∀ (H : AHeap) fid q c, H.get q = some (.row [.int .u8 k.1, .int .i64 k.2, .int .u8 v.1, .int .i64 v.2] 102 4 true) → H.get j = some (.row (cellsOf (liveL l) ++ rest) 102 4 true) → aAppend Tryz.prog 96 96 (.slice (some ⟨j, 0, none⟩) (liveL l).length 0) (.slice (some ⟨q, 0, none⟩) 1 c) fid H = some (.slice (some ⟨fid, 0, none⟩) ((liveL l).length + 1) 0, (H.upd j none).add fid (.row (cellsOf (liveL l) ++ [.int .u8 k.1, .int .i64 k.2, .int .u8 v.1, .int .i64 v.2]) 102 4 true)) := fun H fid q c hg hgj =>
        app_row hap (hadd H q c hg) hgj (cut_in (by rw [cells_len]) [] rest rfl rfl) (by unfold roomOk; rw [Bool.and_eq_true, Nat.ble_eq, Nat.ble_eq]; omega) (by rfl)
      simp only [Option.map_some] at hi9
      simp (maxDischargeDepth := 6) only [sy3.1, zY, qG, qP, qQ, qR, qS, qT, rowAt, ↓jg, ↓ji, Nat.reduceAdd, Nat.reduceEqDiff, ne_eq, jG, Nat.reduceLT, if_true, ite_true, Int.reduceLE, Int.reduceLT, Int.reduceEq, Int.reduceNeg, Int.reduceAdd, Nat.reduceSub, if_false, ite_false, fs_20.1, g0, g4, g5, hi9, hj9, r49, r59, hnn, hnn1, hmn, hin, hjn, st_buildSliceV, hbs, happ, beq_old hin, beq_old hjn, beq_ne (show nx ≠ i from by omega), beq_ne (show nx + 1 ≠ i from by omega), beq_ne hji, beq_ne (Ne.symm hji), hji, Ne.symm hji, beq_ne (show nx ≠ j from by omega), beq_ne (show nx + 1 ≠ j from by omega)]
      refine ⟨by kernel_rfl, ?_⟩
      obtain ⟨lg', e, hm1, hm2⟩ := hloud _ _ _
      refine ⟨_, _, lg', some (nx9 + 9), e, ⟨by omega, by omega, h.ne, ⟨z8, ?_⟩, ⟨_, c8 + 1, ?_, hmapT⟩, .inr ⟨nx9 + 9, [], rfl, by omega, by omega, by omega, ?_⟩, hndT⟩, by omega, fun b hb hbm => ?_, .inr ⟨_, rfl, by omega⟩, hm1, .inl ⟨i, hm2, .inl rfl⟩⟩
      · rw [qE, hlenT]; rfl
      · have := h.ne
        iterate 4 rw [qF _ _ _ _ (by omega)]
        exact hm9
      · rw [qF _ _ _ _ (by omega), qE, hcellsT, List.append_nil]
      · rw [qF _ _ _ _ (fun e => hbm (.inl e)), qF _ _ _ _ (by omega), qF _ _ _ _ (fun e => hbm (.inr (.inr (by rw [e])))), qF _ _ _ _ (by omega), hfr9 b (fun e => hbm (.inr (.inl e)))]
        exact hfr b hb hbm
  · rw [h2] at hl
    rw [Nat.zero_add] at hl h2
    have hpos : posL l k = some r := by unfold posL; rw [h2]; rfl
    unfold setL; rw [hpos]
    have hrl := (List.getElem?_eq_some_iff.1 h1).1
    rcases h.cells with ⟨rfl, rfl⟩ | ⟨j, rest, rfl, hj, hji, hjm, hcells⟩
    · simp at hrl
    have hj4 := (hold j hj).trans hcells
    have hb : Nat.blt r l.length = true := by rw [Nat.blt_eq]; exact hrl
    have hlen : (cellsOf l ++ rest).length = l.length * 4 + rest.length := by rw [List.length_append, cells_len]
    have s1 : (r * 4 + 2 < (cellsOf l ++ rest).length) = True := eq_true (by rw [hlen]; omega)
    have s2 : (r * 4 + (2 + 1) < (cellsOf l ++ rest).length) = True := eq_true (by rw [hlen]; omega)
    have hcs := cells_set v h1 rest
    have hjn : j < nx4 := by omega
    have hmn : m < nx4 := by omega
    have hin : i < nx4 := by omega
    have hnn : nx < nx4 := by omega
    have hnn1 : nx + 1 < nx4 := by omega
    simp only [Option.map_some] at hi4
    rw [za]
    refine y_cut (I := fun e h => SetI o nx i k v e h ∧ e.get 7 = some (.int .i64 (.ofNat r)) ∧ e.get 8 = some (.bool true)) ?_ ?_
    · simp (maxDischargeDepth := 6) only [sy3.1, zY, qG, qP, qQ, qR, qS, qT, rowAt, ↓jg, ↓ji, Nat.reduceAdd, Nat.reduceEqDiff, ne_eq, jG, Nat.reduceLT, if_true, ite_true, Int.reduceLE, Int.reduceLT, Int.reduceEq, Int.reduceNeg, Int.reduceAdd, Nat.reduceSub, if_false, ite_false, fs_20.1, g0, g4, g5, hi4, hm4, r4, hl]
      refine ⟨_, _, rfl, ⟨_, _, _, rfl, ?_, ?_, ?_, r4, r5, hold, by omega, ?_⟩, ?_, ?_⟩ <;> simp (maxDischargeDepth := 6) only [sy3.1, zY, qG, qP, qQ, qR, qS, qT, rowAt, ↓jg, ↓ji, Nat.reduceAdd, Nat.reduceEqDiff, ne_eq, jG, Nat.reduceLT, if_true, ite_true, Int.reduceLE, Int.reduceLT, Int.reduceEq, Int.reduceNeg, Int.reduceAdd, Nat.reduceSub, if_false, ite_false, fs_20.1, g0, g4, g5, hlg4, all_relogL]
    rintro e4 H4 ⟨⟨o5, nx5, lg5, rfl, g0, g4, g5, r4, r5, hold, hnx5, hlg5⟩, g7, g8⟩
    have hi5 := (hold i hi).trans hrow
    have hj5 := (hold j hj).trans hcells
    simp only [Option.map_some] at hi5
    have b1 : Nat.beq (nx + 1) j = false := by
      cases e : Nat.beq (nx + 1) j with
      | false => rfl
      | true => have := Nat.eq_of_beq_eq_true e; omega
    have b2 : Nat.beq i j = false := by
      cases e : Nat.beq i j with
      | false => rfl
      | true => exact absurd (Nat.eq_of_beq_eq_true e).symm hji
    simp (maxDischargeDepth := 6) only [za, zb, zd, zg, zh, zj, zl, zm, zn, zp, zq, zr, zu, zw, zx, zy, zA, zB, zC, zD, zE, zF, zG, zH, zI, zJ, zK, zL, zM, zN, zO, zP, zQ, zR, zS, zT, zU, zV, zW, List.any_nil, zX, List.isEmpty_nil, Bool.true_or, Bool.or_true, zY, zZ, qb, qc, qd, qe, qf, qg, qh, qi, qj, qk, qo, qp, qr, qs, qt, qu, qx, qy, qz, qA, qB, qC, qD, qE, qF, Tr.get_nil, qG, qH, qI, qJ, qK, qL, qM, qN, qO, qP, qQ, qR, qS, qT, qU, qV, qW, qX, qY, qZ, ja, jb, jc, jd, rowAt, Option.getD_some, Option.getD_none, Option.bind_some, Option.bind_none, Option.map_some, Option.map_none, ↓jg, ↓ji, List.length_cons, List.length_nil, List.getElem?_cons_succ, List.getElem?_cons_zero, Nat.reduceAdd, Nat.reduceEqDiff, ne_eq, not_false_eq_true, Nat.add_zero, Nat.zero_add, Nat.add_assoc, List.map_cons, List.map_nil, List.nil_append, List.append_nil, List.cons_append, Bool.not_true, Bool.not_false, jk, jn, jo, jp, jq, jr, Nat.add_left_cancel_iff, js, List.all_nil, jt, ju, Bool.and_self, Bool.and_true, Bool.true_and, true_and, and_true, jv, jw, jx, jy, jz, jA, jB, jC, jD, jE, jF, jG, jH, jI, jJ, jK, jL, jM, jN, jO, jP, jQ, jR, jS, jT, jU, jV, jW, jX, jY, jZ, Ja, List.set_cons_zero, List.set_cons_succ, Nat.reduceLT, and_self, if_true, ite_true, List.size_toArray, Nat.lt_add_one, Nat.zero_lt_succ, List.getElem?_toArray, Jb, Jc, Jd, Je, Jf, Jg, Jh, Ji, Jj, Jk, Jl, Int.reduceLE, Int.reduceLT, Int.reduceEq, Int.reduceNeg, Int.reduceAdd, decide_true, decide_false, Jm, Jn, Jo, Jp, Jq, Jr, Bool.or_false, Bool.false_or, Bool.false_and, Bool.and_false, Bool.or_self, Js, Jt, Ju, Jv, Jw, Jx, Jy, Jz, JA, JB, JC, JD, JE, JF, JG, JH, JI, JJ, JK, JL, JM, JN, JO, JP, JQ, JR, JS, JT, JU, JV, JW, JX, JY, JZ, Nat.reduceSub, if_false, ite_false, calleeV_func _ _ _ co_59, fo_29_0, aLoad_one ld_27, aLoad_agg ld_29, calleeV_func _ _ _ co_61, fo_98_1, aLoad_one ld_95, fo_98_0, aLoad_one ld_96, st_indexAddr _ el_96, fo_102_1, aStore_at sz_29, calleeV_func _ _ _ co_22, calleeV_func _ _ _ co_62, calleeV_func _ _ _ co_63, calleeV_func _ _ _ co_64, aStore_at sz_96, lenV_slice Tryz.underlying96, aLoad_agg ld_102, ze_102, aStore_at sz_102, fo_102_0, bu_102_0_1, st_append ez_96, g0, g4, g5, g7, g8, hi5, hj5, r5, indexAt, hb, Option.isNone_none, s1, s2, List.length_set, b1, b2, hcs]
    obtain ⟨lg', e, hm1, hm2⟩ := leave_log (o := o) (nx := nx) (lg := lg) (l := relogL lg5 (noteId j (noteId j []))) (v := .int .i64 0) (by
      rw [all_relogL, js, ble_old hj]; simp)
    refine ⟨_, _, lg', some j, e, ⟨by omega, by omega, h.ne, ⟨z, ?_⟩, ⟨es, c, ?_, ?_⟩, .inr ⟨j, rest, rfl, by omega, hji, hjm, ?_⟩, ?_⟩, by omega, fun b hb hm => ?_, .inl rfl, hm1, .inl ⟨j, hm2 j (by simp only [in_relogL, in_note, true_or, or_true]) hj, .inr (.inr rfl)⟩⟩
    · rw [qF _ _ _ _ (Ne.symm hji), qF _ _ _ _ (Ne.symm hji), List.length_set]; exact hi5
    · rw [qF _ _ _ _ (Ne.symm hjm), qF _ _ _ _ (Ne.symm hjm)]; exact (hold m hm).trans he
    · rw [kv_set k v l 0 r u h1]; exact hmap
    · rw [qE]
    · rw [keys_set l r k u v h1]; exact h.nodup
    · have hbj : b ≠ j := fun e => hm (.inr (.inr (by rw [e])))
      rw [qF _ _ _ _ hbj, qF _ _ _ _ hbj]; exact hold b hb
theorem set_ok (hO : Clear O) {i m : Nat} {a : Option Nat} {l : List (VV × VV)} (h : TabIn o nx i m a l) {k v : VV} (hok : MaySet k v) (hn : l.length < n) (hbig : l.length < 65536) :
    Got (oCall Tryz.prog [] O (n + 4) 20 [.pointer (some ⟨i, 0, none⟩), vv k, vv v] ⟨o, nx, lg⟩) (SetDone o nx i m a (setL l k v)) := (set_log hO h hok hn hbig).mono fun r ⟨o', nx', lg', a', h1, h2, h3, h4, h5, _⟩ => ⟨o', nx', lg', a', h1, h2, h3, h4, h5⟩
end
end Go.Proofs.YtdfadipfhcikdaaGreatDoor
