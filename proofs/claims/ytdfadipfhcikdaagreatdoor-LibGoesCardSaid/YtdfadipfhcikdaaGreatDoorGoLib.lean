/- lib: its small functions, and Next of a heap's table, on the abstract machine. -/
import Derived.Test.YtdfadipfhcikdaaGreatDoorHmSet
import Derived.Test.YtdfadipfhcikdaaGreatDoorTabNext
namespace Go.Proofs.YtdfadipfhcikdaaGreatDoor
open Go.RowKit
set_option linter.unusedSimpArgs false
set_option linter.unusedVariables false
set_option maxRecDepth 100000

section
variable {O : Helps} {n : Nat} {o : Tr AObj} {nx : Nat} {lg : List Nat} {w : Nat → Nat} {B : HB} {hs : HS}
theorem more4 (h : HeapIn o nx w B hs) (X Y Z W : Option AObj) (q : Nat) : HeapIn ((((o.put nx X).put (nx + 1) Y).put (nx + 2) Z).put (nx + 3) W) (nx + (q + 4)) w B hs := h.more (by omega) fun x hx => by (repeat (first | rw [qE] | rw [qF _ _ _ _ (by omega)]))
set_option maxHeartbeats 16000000 in
theorem hnext_ok (hO : Clear O) (h : HeapIn o nx w B hs) (t k : VV) {ob : Ob} (ho : ofO hs t 5 = some ob) (hn : ob.tab.length ≤ n) (hbig : ob.tab.length < 4611686018427387904) :
    oCall Tryz.prog [] O (n + 5) 83 [.pointer (some ⟨B.i, 0, none⟩), .agg #[.int .u8 t.1, .int .i64 t.2], .agg #[.int .u8 k.1, .int .i64 k.2]] ⟨o, nx, lg⟩ = some (.tuple #[.agg #[.int .u8 (nextL ob.tab k).1.1, .int .i64 (nextL ob.tab k).1.2], .agg #[.int .u8 (nextL ob.tab k).2.1.1, .int .i64 (nextL ob.tab k).2.1.2], .int .i64 (nextL ob.tab k).2.2], ⟨o, nx, lg⟩) := by
  refine of_got ?_
  obtain ⟨z, hr⟩ := h.row
  have hi := h.lt
  have hright := hright_ok (n := n + 3) (i := B.i) (m := B.ma) (p := B.p) (c0 := .int .i64 hs.max) (c3 := .map (some B.mt)) (c4 := .int .i64 hs.made) (c5 := .bool hs.watch) (c6 := .map (some B.mn)) (e := 50) (z := z) (own := true) hO
  have hof := fun (X Y Z W : AObj) (q : Nat) (lg : List Nat) => of_ok (n := n + 1) (lg := lg) hO (more4 h (some X) (some Y) (some Z) (some W) q) t 5
  unfold ofO at ho
  split at ho
  · rename_i h9
    rw [if_pos h9] at hof
    unfold foundV at hof
    rw [ho] at hof
    obtain ⟨hm, hkd⟩ := found_in ho
    have hob := h.obs _ hm
    obtain ⟨tp, sp, ca, cc, zz, hro, _, _, _, htab⟩ := hob.ex
    obtain ⟨ti, tm, ta, rfl, hT, _⟩ := htab (hkd.trans h9)
    have hbl := hob.lt
    simp only at hro hbl
    have hg := fun (X Y Z W : AObj) (q : Nat) (lg : List Nat) => next_ok (n := n) (lg := lg) (o := (((o.put nx (some X)).put (nx + 1) (some Y)).put (nx + 2) (some Z)).put (nx + 3) (some W)) (nx := nx + (q + 4)) hO (hT.more (nx' := nx + (q + 4)) (by omega) fun x hx => by (repeat (first | rw [qE] | rw [qF _ _ _ _ (by omega)]))).at hn hbig k
    simp only [vv, nextV] at hg
    rw [y_fn (rs := [.cell 6 29, .cell 7 29, .tmp 8]) (hO _ (by decide)) Tryz.func83 rfl (by kernel_rfl) rfl rfl]
    repeat (first | with_reducible (first | refine n_on ?_ | refine n_seq ?_ | refine s_else ?_ | refine n_t ?_ | refine n_gt ?_ | refine d_t ?_ | refine n_nil ?_ | refine d_nil ?_ | refine n_block ?_ | refine n_skip ?_ | refine n_bon ?_ | refine n_bback ?_ | refine n_back ?_ | refine n_out ?_ | refine n_bout rfl ?_ | refine n_bfar rfl ?_ | refine n_ret ?_ | refine n_exit ?_ | refine n_label ?_ | refine n_scope ?_ | refine n_son ?_ | refine n_sback ?_) | (with_reducible (first | apply n_region | apply d_region); (simp only [JV, JU, JW, Nat.reduceAdd, Nat.zero_add]; exact rfl)) | (with_reducible (first | apply s_op | apply n_guard | apply n_cond | apply d_guard | apply d_op | apply n_fin | apply n_finb); (simp (maxDischargeDepth := 6) only [sy3.1, zY, qG, qP, qQ, qR, qS, qT, rowAt, ↓jg, ↓ji, Nat.reduceAdd, Nat.reduceEqDiff, ne_eq, jG, Nat.reduceLT, if_true, ite_true, Int.reduceLE, Int.reduceLT, Int.reduceEq, Int.reduceNeg, Int.reduceAdd, Nat.reduceSub, if_false, ite_false, fs_83.1, heapRow, hr, hi, hright, obRow, hof, hro, hbl, hg, kind_pure, kind_load, kind_fresh, kind_other, jg, ji, undef]; first | exact rfl | exact ⟨rfl, rfl, rfl, rfl⟩); try (with_reducible refine calmK_in ?_; decide +kernel)))
    exact Ja (by simp only [all_relogL, js, ju, List.all_nil, jt, Bool.and_self]) (by rfl)
  · cases ho
set_option maxHeartbeats 16000000 in
theorem at0_ok (hO : Clear O) (hp : Option Addr) (s : ByteArray) {j m c : Nat} {v : VV} {rest : List Value} {e : Nat} (hj : j < nx) (hm : 0 < m) (hr : o.get j = some (.row (.int .u8 v.1 :: .int .i64 v.2 :: rest) e 2 true)) :
    oCall Tryz.prog [] O (n + 1) 35 [.agg #[.pointer hp, .string s, .slice (some ⟨j, 0, none⟩) m c], .int .i64 0] ⟨o, nx, lg⟩ = some (.agg #[.int .u8 v.1, .int .i64 v.2], ⟨o, nx, lg⟩) := by
  refine of_got ?_
  have d0 : decide ((0 : Int) < Int.ofNat m) = true := decide_eq_true (by simp only [Int.ofNat_eq_natCast]; omega)
  have b0 : Nat.blt 0 m = true := by rw [Nat.blt_eq]; exact hm
  have c0 : cut (.int .u8 v.1 :: .int .i64 v.2 :: rest) 0 2 = some [.int .u8 v.1, .int .i64 v.2] := rfl
  have i0 : indexAt (none, 2) (.slice (some ⟨j, 0, none⟩) m c) (.int .i64 0) = some (.pointer (some ⟨j, 0, none⟩)) := by
    show indexAt (none, 2) (.slice (some ⟨j, 0, none⟩) m c) (.int .i64 (.ofNat 0)) = _
    simp only [indexAt, Option.isNone_none, b0, cond, Nat.zero_mul, Nat.add_zero]
  rw [y_fn (rs := [.cell 4 29]) (hO _ (by decide)) Tryz.func35 rfl (by kernel_rfl) rfl rfl]
  repeat (first | with_reducible (first | refine n_on ?_ | refine n_seq ?_ | refine s_else ?_ | refine n_t ?_ | refine n_gt ?_ | refine d_t ?_ | refine n_nil ?_ | refine d_nil ?_ | refine n_block ?_ | refine n_skip ?_ | refine n_bon ?_ | refine n_bback ?_ | refine n_back ?_ | refine n_out ?_ | refine n_bout rfl ?_ | refine n_bfar rfl ?_ | refine n_ret ?_ | refine n_exit ?_ | refine n_label ?_ | refine n_scope ?_ | refine n_son ?_ | refine n_sback ?_) | (with_reducible (first | apply n_region | apply d_region); (simp only [JV, JU, JW, Nat.reduceAdd, Nat.zero_add]; exact rfl)) | (with_reducible (first | apply s_op | apply n_guard | apply n_cond | apply d_guard | apply d_op | apply n_fin | apply n_finb); (simp (maxDischargeDepth := 6) only [sy3.1, zY, qG, qP, qQ, qR, qS, qT, rowAt, ↓jg, ↓ji, Nat.reduceAdd, Nat.reduceEqDiff, ne_eq, jG, Nat.reduceLT, if_true, ite_true, Int.reduceLE, Int.reduceLT, Int.reduceEq, Int.reduceNeg, Int.reduceAdd, Nat.reduceSub, if_false, ite_false, fs_35.1, hr, hj, d0, i0, c0, kind_pure, kind_load, kind_fresh, kind_other, jg, ji, undef]; first | exact rfl | exact ⟨rfl, rfl, rfl, rfl⟩); try (with_reducible refine calmK_in ?_; decide +kernel)))
  exact Ja (by simp only [all_relogL, js, ju, List.all_nil, jt, Bool.and_self]) (by rfl)
set_option maxHeartbeats 16000000 in
theorem at1_ok (hO : Clear O) (hp : Option Addr) (s : ByteArray) {j m c : Nat} {a b : Value} {v : VV} {rest : List Value} {e : Nat} (hj : j < nx) (hm : 1 < m) (hr : o.get j = some (.row (a :: b :: .int .u8 v.1 :: .int .i64 v.2 :: rest) e 2 true)) :
    oCall Tryz.prog [] O (n + 1) 35 [.agg #[.pointer hp, .string s, .slice (some ⟨j, 0, none⟩) m c], .int .i64 1] ⟨o, nx, lg⟩ = some (.agg #[.int .u8 v.1, .int .i64 v.2], ⟨o, nx, lg⟩) := by
  refine of_got ?_
  have d0 : decide ((1 : Int) < Int.ofNat m) = true := decide_eq_true (by simp only [Int.ofNat_eq_natCast]; omega)
  have b0 : Nat.blt 1 m = true := by rw [Nat.blt_eq]; exact hm
  have c0 : cut (a :: b :: .int .u8 v.1 :: .int .i64 v.2 :: rest) 2 2 = some [.int .u8 v.1, .int .i64 v.2] := rfl
  have i0 : indexAt (none, 2) (.slice (some ⟨j, 0, none⟩) m c) (.int .i64 1) = some (.pointer (some ⟨j, 2, none⟩)) := by
    show indexAt (none, 2) (.slice (some ⟨j, 0, none⟩) m c) (.int .i64 (.ofNat 1)) = _
    simp only [indexAt, Option.isNone_none, b0, cond, Nat.one_mul, Nat.zero_add]
  rw [y_fn (rs := [.cell 4 29]) (hO _ (by decide)) Tryz.func35 rfl (by kernel_rfl) rfl rfl]
  repeat (first | with_reducible (first | refine n_on ?_ | refine n_seq ?_ | refine s_else ?_ | refine n_t ?_ | refine n_gt ?_ | refine d_t ?_ | refine n_nil ?_ | refine d_nil ?_ | refine n_block ?_ | refine n_skip ?_ | refine n_bon ?_ | refine n_bback ?_ | refine n_back ?_ | refine n_out ?_ | refine n_bout rfl ?_ | refine n_bfar rfl ?_ | refine n_ret ?_ | refine n_exit ?_ | refine n_label ?_ | refine n_scope ?_ | refine n_son ?_ | refine n_sback ?_) | (with_reducible (first | apply n_region | apply d_region); (simp only [JV, JU, JW, Nat.reduceAdd, Nat.zero_add]; exact rfl)) | (with_reducible (first | apply s_op | apply n_guard | apply n_cond | apply d_guard | apply d_op | apply n_fin | apply n_finb); (simp (maxDischargeDepth := 6) only [sy3.1, zY, qG, qP, qQ, qR, qS, qT, rowAt, ↓jg, ↓ji, Nat.reduceAdd, Nat.reduceEqDiff, ne_eq, jG, Nat.reduceLT, if_true, ite_true, Int.reduceLE, Int.reduceLT, Int.reduceEq, Int.reduceNeg, Int.reduceAdd, Nat.reduceSub, if_false, ite_false, fs_35.1, hr, hj, d0, i0, c0, kind_pure, kind_load, kind_fresh, kind_other, jg, ji, undef]; first | exact rfl | exact ⟨rfl, rfl, rfl, rfl⟩); try (with_reducible refine calmK_in ?_; decide +kernel)))
  exact Ja (by simp only [all_relogL, js, ju, List.all_nil, jt, Bool.and_self]) (by rfl)
theorem atNone_ok (hO : Clear O) (hp : Option Addr) (s : ByteArray) {j m c : Nat} {k : Int} (hj : j < nx) (hk : Int.ofNat m ≤ k) :
    oCall Tryz.prog [] O (n + 1) 35 [.agg #[.pointer hp, .string s, .slice (some ⟨j, 0, none⟩) m c], .int .i64 k] ⟨o, nx, lg⟩ = some (.agg #[.int .u8 0, .int .i64 0], ⟨o, nx, lg⟩) := by
  refine of_got ?_
  have d0 : decide (k < Int.ofNat m) = false := decide_eq_false (by omega)
  rw [y_fn (rs := [.cell 4 29]) (hO _ (by decide)) Tryz.func35 rfl (by kernel_rfl) rfl rfl]
  repeat (first | with_reducible (first | refine n_on ?_ | refine n_seq ?_ | refine s_else ?_ | refine n_t ?_ | refine n_gt ?_ | refine d_t ?_ | refine n_nil ?_ | refine d_nil ?_ | refine n_block ?_ | refine n_skip ?_ | refine n_bon ?_ | refine n_bback ?_ | refine n_back ?_ | refine n_out ?_ | refine n_bout rfl ?_ | refine n_bfar rfl ?_ | refine n_ret ?_ | refine n_exit ?_ | refine n_label ?_ | refine n_scope ?_ | refine n_son ?_ | refine n_sback ?_) | (with_reducible (first | apply n_region | apply d_region); (simp only [JV, JU, JW, Nat.reduceAdd, Nat.zero_add]; exact rfl)) | (with_reducible (first | apply s_op | apply n_guard | apply n_cond | apply d_guard | apply d_op | apply n_fin | apply n_finb); (simp (maxDischargeDepth := 6) only [sy3.1, zY, qG, qP, qQ, qR, qS, qT, rowAt, ↓jg, ↓ji, Nat.reduceAdd, Nat.reduceEqDiff, ne_eq, jG, Nat.reduceLT, if_true, ite_true, Int.reduceLE, Int.reduceLT, Int.reduceEq, Int.reduceNeg, Int.reduceAdd, Nat.reduceSub, if_false, ite_false, fs_35.1, hj, d0, kind_pure, kind_load, kind_fresh, kind_other, jg, ji, undef]; first | exact rfl | exact ⟨rfl, rfl, rfl, rfl⟩); try (with_reducible refine calmK_in ?_; decide +kernel)))
  exact Ja (by simp only [all_relogL, js, ju, List.all_nil, jt, Bool.and_self]) (by rfl)
theorem lnum_ok (hO : Clear O) (k : Int) : oCall Tryz.prog [] O (n + 1) 49 [.int .i64 k] ⟨o, nx, lg⟩ = some (.agg #[.int .u8 3, .int .i64 k], ⟨o, nx, lg⟩) := by
  refine of_got ?_
  rw [y_fn (rs := [.cell 2 29]) (hO _ (by decide)) Tryz.func49 rfl (by kernel_rfl) rfl rfl]
  repeat (first | with_reducible (first | refine n_on ?_ | refine n_seq ?_ | refine s_else ?_ | refine n_t ?_ | refine n_gt ?_ | refine d_t ?_ | refine n_nil ?_ | refine d_nil ?_ | refine n_block ?_ | refine n_skip ?_ | refine n_bon ?_ | refine n_bback ?_ | refine n_back ?_ | refine n_out ?_ | refine n_bout rfl ?_ | refine n_bfar rfl ?_ | refine n_ret ?_ | refine n_exit ?_ | refine n_label ?_ | refine n_scope ?_ | refine n_son ?_ | refine n_sback ?_) | (with_reducible (first | apply n_region | apply d_region); (simp only [JV, JU, JW, Nat.reduceAdd, Nat.zero_add]; exact rfl)) | (with_reducible (first | apply s_op | apply n_guard | apply n_cond | apply d_guard | apply d_op | apply n_fin | apply n_finb); (simp (maxDischargeDepth := 6) only [sy3.1, zY, qG, qP, qQ, qR, qS, qT, rowAt, ↓jg, ↓ji, Nat.reduceAdd, Nat.reduceEqDiff, ne_eq, jG, Nat.reduceLT, if_true, ite_true, Int.reduceLE, Int.reduceLT, Int.reduceEq, Int.reduceNeg, Int.reduceAdd, Nat.reduceSub, if_false, ite_false, fs_49.1, kind_pure, kind_load, kind_fresh, kind_other, jg, ji, undef]; first | exact rfl | exact ⟨rfl, rfl, rfl, rfl⟩); try (with_reducible refine calmK_in ?_; decide +kernel)))
  exact Ja (by simp only [all_relogL, js, ju, List.all_nil, jt, Bool.and_self]) (by rfl)
theorem wnum_ok (hO : Clear O) (k : Int) : oCall Tryz.prog [] O (n + 1) 7 [.int .i64 k] ⟨o, nx, lg⟩ = some (.agg #[.int .u8 3, .int .i64 k], ⟨o, nx, lg⟩) := by
  refine of_got ?_
  rw [y_fn (rs := [.cell 2 29]) (hO _ (by decide)) Tryz.func7 rfl (by kernel_rfl) rfl rfl]
  repeat (first | with_reducible (first | refine n_on ?_ | refine n_seq ?_ | refine s_else ?_ | refine n_t ?_ | refine n_gt ?_ | refine d_t ?_ | refine n_nil ?_ | refine d_nil ?_ | refine n_block ?_ | refine n_skip ?_ | refine n_bon ?_ | refine n_bback ?_ | refine n_back ?_ | refine n_out ?_ | refine n_bout rfl ?_ | refine n_bfar rfl ?_ | refine n_ret ?_ | refine n_exit ?_ | refine n_label ?_ | refine n_scope ?_ | refine n_son ?_ | refine n_sback ?_) | (with_reducible (first | apply n_region | apply d_region); (simp only [JV, JU, JW, Nat.reduceAdd, Nat.zero_add]; exact rfl)) | (with_reducible (first | apply s_op | apply n_guard | apply n_cond | apply d_guard | apply d_op | apply n_fin | apply n_finb); (simp (maxDischargeDepth := 6) only [sy3.1, zY, qG, qP, qQ, qR, qS, qT, rowAt, ↓jg, ↓ji, Nat.reduceAdd, Nat.reduceEqDiff, ne_eq, jG, Nat.reduceLT, if_true, ite_true, Int.reduceLE, Int.reduceLT, Int.reduceEq, Int.reduceNeg, Int.reduceAdd, Nat.reduceSub, if_false, ite_false, fs_7.1, kind_pure, kind_load, kind_fresh, kind_other, jg, ji, undef]; first | exact rfl | exact ⟨rfl, rfl, rfl, rfl⟩); try (with_reducible refine calmK_in ?_; decide +kernel)))
  exact Ja (by simp only [all_relogL, js, ju, List.all_nil, jt, Bool.and_self]) (by rfl)
set_option maxHeartbeats 16000000 in
/-- a table that is there, handed in first -/
theorem table0_ok (hO : Clear O) (h : HeapIn o nx w B hs) (s : ByteArray) {j m c : Nat} {d : Int} {rest : List Value} {e : Nat} (hj : j < nx) (hm : 0 < m) (hr : o.get j = some (.row (.int .u8 5 :: .int .i64 d :: rest) e 2 true)) (hf : (findO hs (5, d)).isSome = true) :
    oCall Tryz.prog [] O (n + 4) 52 [.agg #[.pointer (some ⟨B.i, 0, none⟩), .string s, .slice (some ⟨j, 0, none⟩) m c], .int .i64 0] ⟨o, nx, lg⟩ = some (.bool true, ⟨o, nx, lg⟩) := by
  refine of_got ?_
  have ha := fun (X : AObj) (q : Nat) (lg : List Nat) => at0_ok (o := o.put nx (some X)) (nx := nx + (q + 1)) (n := n + 2) (lg := lg) (v := (5, d)) hO (some ⟨B.i, 0, none⟩) s (j := j) (m := m) (c := c) (rest := rest) (e := e) (by omega) hm (by (repeat (first | rw [qE] | rw [qF _ _ _ _ (by omega)])); exact hr)
  have hh := fun (X : AObj) (q : Nat) (lg : List Nat) => has_ok (n := n) (lg := lg) hO (more1 h (some X) (q + 1)) (5, d)
  simp only [hf] at ha hh
  rw [y_fn (rs := [.tmp 4]) (hO _ (by decide)) Tryz.func52 rfl (by kernel_rfl) rfl rfl]
  repeat (first | with_reducible (first | refine n_on ?_ | refine n_seq ?_ | refine s_else ?_ | refine n_t ?_ | refine n_gt ?_ | refine d_t ?_ | refine n_nil ?_ | refine d_nil ?_ | refine n_block ?_ | refine n_skip ?_ | refine n_bon ?_ | refine n_bback ?_ | refine n_back ?_ | refine n_out ?_ | refine n_bout rfl ?_ | refine n_bfar rfl ?_ | refine n_ret ?_ | refine n_exit ?_ | refine n_label ?_ | refine n_scope ?_ | refine n_son ?_ | refine n_sback ?_) | (with_reducible (first | apply n_region | apply d_region); (simp only [JV, JU, JW, Nat.reduceAdd, Nat.zero_add]; exact rfl)) | (with_reducible (first | apply s_op | apply n_guard | apply n_cond | apply d_guard | apply d_op | apply n_fin | apply n_finb); (simp (maxDischargeDepth := 6) only [sy3.1, zY, qG, qP, qQ, qR, qS, qT, rowAt, ↓jg, ↓ji, Nat.reduceAdd, Nat.reduceEqDiff, ne_eq, jG, Nat.reduceLT, if_true, ite_true, Int.reduceLE, Int.reduceLT, Int.reduceEq, Int.reduceNeg, Int.reduceAdd, Nat.reduceSub, if_false, ite_false, fs_52.1, ha, hh, kind_pure, kind_load, kind_fresh, kind_other, jg, ji, undef]; first | exact rfl | exact ⟨rfl, rfl, rfl, rfl⟩); try (with_reducible refine calmK_in ?_; decide +kernel)))
  exact Ja (by simp only [all_relogL, js, ju, List.all_nil, jt, Bool.and_self]) (by rfl)
end
end Go.Proofs.YtdfadipfhcikdaaGreatDoor
