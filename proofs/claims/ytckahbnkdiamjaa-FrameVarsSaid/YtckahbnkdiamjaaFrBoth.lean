/- Frame: both, the law's two heaps. -/
import Derived.Test.YtckahbnkdiamjaaFrRef4
import Derived.Test.YtckahbnkdiamjaaHmGood
namespace Go.Proofs.Ytckahbnkdiamjaa
open Go.RowKit
set_option linter.unusedSimpArgs false
set_option linter.unusedVariables false
set_option maxRecDepth 100000

/-- the heap after both's Cell, and after its Func -/
def hsC : HS := (cellO (hs0 100000) (3, 77)).1
def hsF : HS := (funcO hsC 0 [(9, 1)]).1
theorem hsC_val : (cellO (hs0 100000) (3, 77)).2 = ((9, 1), 0) := by decide +kernel
theorem hsF_val : (funcO hsC 0 [(9, 1)]).2 = ((6, 2), 0) := by decide +kernel
theorem hsC_len : hsC.pool.sizes.length = 1 := by decide +kernel
theorem hsC_good : HGood hsC := (good0 (by decide) (by decide)).cell _ (by decide)
theorem hsF_good : HGood hsF := hsC_good.func _ _ (by decide +kernel)
def BothTo (o : Tr AObj) (nx : Nat) (lg : List Nat) (r : Value × AHeap) : Prop :=
  ∃ o' nx' lg' w' B rh, r = (.tuple #[.pointer (some ⟨B.i, 0, none⟩), .pointer (some ⟨rh, 0, none⟩), vv (6, 2), .bool true], ⟨o', nx', lg'⟩) ∧ nx ≤ nx' ∧ HeapIn o' nx' w' B hsF ∧ nx ≤ B.i ∧ (∀ x, x < nx → o'.get x = o.get x ∧ w' x = 0) ∧ ∀ y, y ∈ lg → y ∈ lg'
section
variable {O : Helps} {n : Nat} {o : Tr AObj} {nx : Nat} {lg : List Nat}
set_option maxHeartbeats 32000000 in
theorem both_ok (hO : Clear O) : Got (oCall Try.prog [] O (n + 10) 9 [.int .i64 100000] ⟨o, nx, lg⟩) (BothTo o nx lg) := by
  have hnum := fun (o : Tr AObj) (nx : Nat) (lg : List Nat) => num_ok (n := n + 8) (o := o) (nx := nx) (lg := lg) hO 77
  rw [y_fn (rs := [.tmp 2, .tmp 3, .cell 4 41, .tmp 5]) (hO _ (by decide)) Try.func9 rfl (by kernel_rfl) rfl rfl]
  repeat (first | with_reducible (first | refine n_on ?_ | refine n_seq ?_ | refine s_else ?_ | refine n_t ?_ | refine n_gt ?_ | refine d_t ?_ | refine n_nil ?_ | refine d_nil ?_ | refine n_block ?_ | refine n_skip ?_ | refine n_bon ?_ | refine n_bback ?_ | refine n_back ?_ | refine n_out ?_ | refine n_bout rfl ?_ | refine n_bfar rfl ?_ | refine n_ret ?_ | refine n_exit ?_ | refine n_label ?_ | refine n_scope ?_ | refine n_son ?_ | refine n_sback ?_) | (with_reducible (first | apply n_region | apply d_region); (simp only [JV, JU, JW, Nat.reduceAdd, Nat.zero_add]; exact rfl)) | (with_reducible (first | apply s_op | apply n_guard | apply n_cond | apply d_guard | apply d_op | apply n_fin | apply n_finb); (simp (maxDischargeDepth := 6) only [sy3.1, zY, qG, qP, qQ, qR, qS, qT, rowAt, ↓jg, ↓ji, Nat.reduceAdd, Nat.reduceEqDiff, ne_eq, jG, Nat.reduceLT, if_true, ite_true, Int.reduceLE, Int.reduceLT, Int.reduceEq, Int.reduceNeg, Int.reduceAdd, Nat.reduceSub, if_false, ite_false, fs_9.1, vv, kind_pure, kind_load, kind_fresh, kind_other, jg, ji, undef]; first | exact rfl | exact ⟨rfl, rfl, rfl, rfl⟩); try (with_reducible refine calmK_in ?_; decide +kernel)))
  refine s_do _ (by
    simp (maxDischargeDepth := 6) only [sy3.1, zY, qG, qP, qQ, qR, qS, qT, rowAt, ↓jg, ↓ji, Nat.reduceAdd, Nat.reduceEqDiff, ne_eq, jG, Nat.reduceLT, if_true, ite_true, Int.reduceLE, Int.reduceLT, Int.reduceEq, Int.reduceNeg, Int.reduceAdd, Nat.reduceSub, if_false, ite_false, fs_9.1]
    exact hnew_ok (n := n + 7) hO 100000 (by decide) (by decide)) ?_
  rintro v1 H1 ⟨o1, nx1, lg1, w1, B1, heq, hn1, hB1, hH1, hfr1, hmo1⟩
  cases heq
  have h2a : o1.get (nx + 2) = some (.row [.int .u8 0, .int .i64 0] 41 0 true) := by rw [(hfr1 _ (by omega)).1]; (repeat (first | rw [qE] | rw [qF _ _ _ _ (by omega)]))
  repeat (first | with_reducible (first | refine n_on ?_ | refine n_seq ?_ | refine s_else ?_ | refine n_t ?_ | refine n_gt ?_ | refine d_t ?_ | refine n_nil ?_ | refine d_nil ?_ | refine n_block ?_ | refine n_skip ?_ | refine n_bon ?_ | refine n_bback ?_ | refine n_back ?_ | refine n_out ?_ | refine n_bout rfl ?_ | refine n_bfar rfl ?_ | refine n_ret ?_ | refine n_exit ?_ | refine n_label ?_ | refine n_scope ?_ | refine n_son ?_ | refine n_sback ?_) | (with_reducible (first | apply n_region | apply d_region); (simp only [JV, JU, JW, Nat.reduceAdd, Nat.zero_add]; exact rfl)) | (with_reducible (first | apply s_op | apply n_guard | apply n_cond | apply d_guard | apply d_op | apply n_fin | apply n_finb); (simp (maxDischargeDepth := 6) only [sy3.1, zY, qG, qP, qQ, qR, qS, qT, rowAt, ↓jg, ↓ji, Nat.reduceAdd, Nat.reduceEqDiff, ne_eq, jG, Nat.reduceLT, if_true, ite_true, Int.reduceLE, Int.reduceLT, Int.reduceEq, Int.reduceNeg, Int.reduceAdd, Nat.reduceSub, if_false, ite_false, fs_9.1, vv, kind_pure, kind_load, kind_fresh, kind_other, jg, ji, undef]; first | exact rfl | exact ⟨rfl, rfl, rfl, rfl⟩); try (with_reducible refine calmK_in ?_; decide +kernel)))
  refine s_do _ (by
    simp (maxDischargeDepth := 6) only [sy3.1, zY, qG, qP, qQ, qR, qS, qT, rowAt, ↓jg, ↓ji, Nat.reduceAdd, Nat.reduceEqDiff, ne_eq, jG, Nat.reduceLT, if_true, ite_true, Int.reduceLE, Int.reduceLT, Int.reduceEq, Int.reduceNeg, Int.reduceAdd, Nat.reduceSub, if_false, ite_false, fs_9.1]
    exact rnew_ok (n := n + 8) hO 100000 (by decide) (by decide)) ?_
  rintro v2 H2 ⟨o2, nx2, rh, heq, hn2, hrh1, hrh2, hrr, hfr2⟩
  cases heq
  have hH2 := hH1.more (o' := o2) (nx' := nx2) (by omega) fun x hx => hfr2 x (by omega)
  repeat (first | with_reducible (first | refine n_on ?_ | refine n_seq ?_ | refine s_else ?_ | refine n_t ?_ | refine n_gt ?_ | refine d_t ?_ | refine n_nil ?_ | refine d_nil ?_ | refine n_block ?_ | refine n_skip ?_ | refine n_bon ?_ | refine n_bback ?_ | refine n_back ?_ | refine n_out ?_ | refine n_bout rfl ?_ | refine n_bfar rfl ?_ | refine n_ret ?_ | refine n_exit ?_ | refine n_label ?_ | refine n_scope ?_ | refine n_son ?_ | refine n_sback ?_) | (with_reducible (first | apply n_region | apply d_region); (simp only [JV, JU, JW, Nat.reduceAdd, Nat.zero_add]; exact rfl)) | (with_reducible (first | apply s_op | apply n_guard | apply n_cond | apply d_guard | apply d_op | apply n_fin | apply n_finb); (simp (maxDischargeDepth := 6) only [sy3.1, zY, qG, qP, qQ, qR, qS, qT, rowAt, ↓jg, ↓ji, Nat.reduceAdd, Nat.reduceEqDiff, ne_eq, jG, Nat.reduceLT, if_true, ite_true, Int.reduceLE, Int.reduceLT, Int.reduceEq, Int.reduceNeg, Int.reduceAdd, Nat.reduceSub, if_false, ite_false, fs_9.1, vv, hnum, kind_pure, kind_load, kind_fresh, kind_other, jg, ji, undef]; first | exact rfl | exact ⟨rfl, rfl, rfl, rfl⟩); try (with_reducible refine calmK_in ?_; decide +kernel)))
  have hw1 : ∀ x, nx1 ≤ x → w1 x = 0 := fun x hx => by
    by_cases e : w1 x = 0
    · exact e
    · have := hH1.wlt x e; omega
  refine s_do _ (by
    simp (maxDischargeDepth := 6) only [sy3.1, zY, qG, qP, qQ, qR, qS, qT, rowAt, ↓jg, ↓ji, Nat.reduceAdd, Nat.reduceEqDiff, ne_eq, jG, Nat.reduceLT, if_true, ite_true, Int.reduceLE, Int.reduceLT, Int.reduceEq, Int.reduceNeg, Int.reduceAdd, Nat.reduceSub, if_false, ite_false, fs_9.1]
    exact cell_ok (n := n + 4) hO (hH2.more (by omega) fun _ _ => rfl) (good0 (by decide) (by decide)) (3, 77) (by decide) (by decide) (by show 0 < n + 4; omega)) ?_
  rintro v3 H3 ⟨o3, nx3, lg3, w3, B3, heq, hn3, hH3, hB3, hfr3, hmo3, hl3⟩
  cases heq
  have e3 : (cellO (hs0 100000) (3, 77)).1 = hsC := rfl
  rw [e3] at hH3
  rw [hsC_val]
  repeat (first | with_reducible (first | refine n_on ?_ | refine n_seq ?_ | refine s_else ?_ | refine n_t ?_ | refine n_gt ?_ | refine d_t ?_ | refine n_nil ?_ | refine d_nil ?_ | refine n_block ?_ | refine n_skip ?_ | refine n_bon ?_ | refine n_bback ?_ | refine n_back ?_ | refine n_out ?_ | refine n_bout rfl ?_ | refine n_bfar rfl ?_ | refine n_ret ?_ | refine n_exit ?_ | refine n_label ?_ | refine n_scope ?_ | refine n_son ?_ | refine n_sback ?_) | (with_reducible (first | apply n_region | apply d_region); (simp only [JV, JU, JW, Nat.reduceAdd, Nat.zero_add]; exact rfl)) | (with_reducible (first | apply s_op | apply n_guard | apply n_cond | apply d_guard | apply d_op | apply n_fin | apply n_finb); (simp (maxDischargeDepth := 6) only [sy3.1, zY, qG, qP, qQ, qR, qS, qT, rowAt, ↓jg, ↓ji, Nat.reduceAdd, Nat.reduceEqDiff, ne_eq, jG, Nat.reduceLT, if_true, ite_true, Int.reduceLE, Int.reduceLT, Int.reduceEq, Int.reduceNeg, Int.reduceAdd, Nat.reduceSub, if_false, ite_false, fs_9.1, vv, hnum, kind_pure, kind_load, kind_fresh, kind_other, jg, ji, undef]; first | exact rfl | exact ⟨rfl, rfl, rfl, rfl⟩); try (with_reducible refine calmK_in ?_; decide +kernel)))
  refine s_do _ (by
    simp (maxDischargeDepth := 6) only [sy3.1, zY, qG, qP, qQ, qR, qS, qT, rowAt, ↓jg, ↓ji, Nat.reduceAdd, Nat.reduceEqDiff, ne_eq, jG, Nat.reduceLT, if_true, ite_true, Int.reduceLE, Int.reduceLT, Int.reduceEq, Int.reduceNeg, Int.reduceAdd, Nat.reduceSub, if_false, ite_false, fs_9.1]
    exact rcell_ok (n := n + 5) (m := 100000) hO (by (repeat (first | rw [qE] | rw [qF _ _ _ _ (by omega)])); rw [(hfr3 rh (by omega) (hw1 _ (by omega))).1]; exact hrr) (by omega) 77 (by decide)) ?_
  rintro v4 H4 ⟨o4, nx4, lg4, s4, b4, heq, hn4, hR4, hs4, hb4, hfr4, hmo4, hin4⟩
  cases heq
  have h10 : o4.get (nx2 + 12) = some (.row [.int .u8 9, .int .i64 1] 41 0 true) := by rw [hfr4 _ (by omega) (by omega)]; (repeat (first | rw [qE] | rw [qF _ _ _ _ (by omega)]))
  have z1 : w3 rh = 0 := (hfr3 rh (by omega) (hw1 _ (by omega))).2
  have z2 : w3 (nx2 + 12) = 0 := (hfr3 _ (by omega) (hw1 _ (by omega))).2
  have hH4 : HeapIn o4 nx4 w3 B3 hsC := hH3.keep (by omega) (fun x hx => by have := hH3.wlt x hx; omega) fun x hx => ⟨by
    have k1 : x ≠ rh := fun e => hx (by rw [e]; exact z1)
    have k2 : x ≠ nx2 + 12 := fun e => hx (by rw [e]; exact z2)
    rw [hfr4 x (by have := hH3.wlt x hx; omega) k1]
    (repeat (first | rw [qE] | rw [qF _ _ _ _ (by omega)])), rfl⟩
  have hl10 : nx2 + 12 < nx4 := by omega
  repeat (first | with_reducible (first | refine n_on ?_ | refine n_seq ?_ | refine s_else ?_ | refine n_t ?_ | refine n_gt ?_ | refine d_t ?_ | refine n_nil ?_ | refine d_nil ?_ | refine n_block ?_ | refine n_skip ?_ | refine n_bon ?_ | refine n_bback ?_ | refine n_back ?_ | refine n_out ?_ | refine n_bout rfl ?_ | refine n_bfar rfl ?_ | refine n_ret ?_ | refine n_exit ?_ | refine n_label ?_ | refine n_scope ?_ | refine n_son ?_ | refine n_sback ?_) | (with_reducible (first | apply n_region | apply d_region); (simp only [JV, JU, JW, Nat.reduceAdd, Nat.zero_add]; exact rfl)) | (with_reducible (first | apply s_op | apply n_guard | apply n_cond | apply d_guard | apply d_op | apply n_fin | apply n_finb); (simp (maxDischargeDepth := 6) only [sy3.1, zY, qG, qP, qQ, qR, qS, qT, rowAt, ↓jg, ↓ji, Nat.reduceAdd, Nat.reduceEqDiff, ne_eq, jG, Nat.reduceLT, if_true, ite_true, Int.reduceLE, Int.reduceLT, Int.reduceEq, Int.reduceNeg, Int.reduceAdd, Nat.reduceSub, if_false, ite_false, fs_9.1, vv, hnum, h10, hl10, st_buildSliceV, build_vv1, kind_pure, kind_load, kind_fresh, kind_other, jg, ji, undef]; first | exact rfl | exact ⟨rfl, rfl, rfl, rfl⟩); try (with_reducible refine calmK_in ?_; decide +kernel)))
  refine s_do _ (by
    simp (maxDischargeDepth := 6) only [sy3.1, zY, qG, qP, qQ, qR, qS, qT, rowAt, ↓jg, ↓ji, Nat.reduceAdd, Nat.reduceEqDiff, ne_eq, jG, Nat.reduceLT, if_true, ite_true, Int.reduceLE, Int.reduceLT, Int.reduceEq, Int.reduceNeg, Int.reduceAdd, Nat.reduceSub, if_false, ite_false, fs_9.1]
    rw [← hB3]
    exact func_ok (n := n + 2) (a := some _) (l := [(9, 1)]) (cc := 2) hO (hH4.more (by omega) fun x hx => by (repeat (first | rw [qE] | rw [qF _ _ _ _ (by omega)]))) hsC_good 0 (.inr ⟨_, [], rfl, by omega, qE _ _ _⟩) (fun e => (by cases e)) (by decide) (by decide +kernel) (by decide +kernel) (by rw [hsC_len]; omega) (by show 1 < n + 2; omega)) ?_
  rintro v5 H5 ⟨o5, nx5, lg5, w5, B5, heq, hn5, hH5, hB5, hfr5, hmo5, hl5⟩
  cases heq
  have e5 : (funcO hsC 0 [(9, 1)]).1 = hsF := rfl
  rw [e5] at hH5
  rw [hsF_val]
  have z3 : w3 (nx2 + 12) = 0 := z2
  have h10' : o5.get (nx2 + 12) = some (.row [.int .u8 9, .int .i64 1] 41 0 true) := by rw [(hfr5 _ (by omega) z2).1]; (repeat (first | rw [qE] | rw [qF _ _ _ _ (by omega)])); exact h10
  have hl10' : nx2 + 12 < nx5 := by omega
  have hw3 : ∀ x, nx3 ≤ x → w3 x = 0 := fun x hx => by
    by_cases e : w3 x = 0
    · exact e
    · have := hH3.wlt x e; omega
  have r1 := hR4.ltr
  have r2 := hR4.lts
  have r3 := hR4.ltb
  repeat (first | with_reducible (first | refine n_on ?_ | refine n_seq ?_ | refine s_else ?_ | refine n_t ?_ | refine n_gt ?_ | refine d_t ?_ | refine n_nil ?_ | refine d_nil ?_ | refine n_block ?_ | refine n_skip ?_ | refine n_bon ?_ | refine n_bback ?_ | refine n_back ?_ | refine n_out ?_ | refine n_bout rfl ?_ | refine n_bfar rfl ?_ | refine n_ret ?_ | refine n_exit ?_ | refine n_label ?_ | refine n_scope ?_ | refine n_son ?_ | refine n_sback ?_) | (with_reducible (first | apply n_region | apply d_region); (simp only [JV, JU, JW, Nat.reduceAdd, Nat.zero_add]; exact rfl)) | (with_reducible (first | apply s_op | apply n_guard | apply n_cond | apply d_guard | apply d_op | apply n_fin | apply n_finb); (simp (maxDischargeDepth := 6) only [sy3.1, zY, qG, qP, qQ, qR, qS, qT, rowAt, ↓jg, ↓ji, Nat.reduceAdd, Nat.reduceEqDiff, ne_eq, jG, Nat.reduceLT, if_true, ite_true, Int.reduceLE, Int.reduceLT, Int.reduceEq, Int.reduceNeg, Int.reduceAdd, Nat.reduceSub, if_false, ite_false, fs_9.1, vv, h10', hl10, hl10', st_buildSliceV, build_vv1, kind_pure, kind_load, kind_fresh, kind_other, jg, ji, undef]; first | exact rfl | exact ⟨rfl, rfl, rfl, rfl⟩); try (with_reducible refine calmK_in ?_; decide +kernel)))
  refine s_do _ (by
    simp (maxDischargeDepth := 6) only [sy3.1, zY, qG, qP, qQ, qR, qS, qT, rowAt, ↓jg, ↓ji, Nat.reduceAdd, Nat.reduceEqDiff, ne_eq, jG, Nat.reduceLT, if_true, ite_true, Int.reduceLE, Int.reduceLT, Int.reduceEq, Int.reduceNeg, Int.reduceAdd, Nat.reduceSub, if_false, ite_false, fs_9.1]
    exact rfunc_ok (n := n + 3) (cc := 2) (v0 := (3, 77)) (m := 100000) (s := s4) (b0 := b4) hO (hR4.keep (by omega) (by (repeat (first | rw [qE] | rw [qF _ _ _ _ (by omega)])); rw [(hfr5 _ (by omega) z1).1]; (repeat (first | rw [qE] | rw [qF _ _ _ _ (by omega)]))) (by (repeat (first | rw [qE] | rw [qF _ _ _ _ (by omega)])); rw [(hfr5 _ (by omega) (hw3 _ (by omega))).1]; (repeat (first | rw [qE] | rw [qF _ _ _ _ (by omega)]))) (by (repeat (first | rw [qE] | rw [qF _ _ _ _ (by omega)])); rw [(hfr5 _ (by omega) (hw3 _ (by omega))).1]; (repeat (first | rw [qE] | rw [qF _ _ _ _ (by omega)])))) (qE _ _ _) (by omega) (by decide)) ?_
  rintro v6 H6 ⟨o6, nx6, lg6, heq, hn6, hfr6, hmo6, hin6⟩
  cases heq
  have h11 : o6.get (nx4 + 7) = some (.row [.int .u8 6, .int .i64 2] 41 0 true) := by rw [hfr6 _ (by omega) (by omega) (by omega)]; (repeat (first | rw [qE] | rw [qF _ _ _ _ (by omega)]))
  have hold : ∀ x, x < nx1 → w1 x = 0 → o6.get x = o1.get x := fun x hx hw0 => by
    rw [hfr6 x (by omega) (by omega) (by omega)]; (repeat (first | rw [qE] | rw [qF _ _ _ _ (by omega)]))
    have q3 := hfr3 x (by omega) hw0
    rw [(hfr5 x (by omega) q3.2).1]; (repeat (first | rw [qE] | rw [qF _ _ _ _ (by omega)]))
    rw [hfr4 x (by omega) (by omega)]; (repeat (first | rw [qE] | rw [qF _ _ _ _ (by omega)]))
    rw [q3.1]; (repeat (first | rw [qE] | rw [qF _ _ _ _ (by omega)]))
    rw [hfr2 x (by omega)]
  have hl11 : nx4 + 7 < nx6 := by omega
  have h4 := (hold (nx + 2) (by omega) (hfr1 _ (by omega)).2).trans h2a
  repeat (first | with_reducible (first | refine n_on ?_ | refine n_seq ?_ | refine s_else ?_ | refine n_t ?_ | refine n_gt ?_ | refine d_t ?_ | refine n_nil ?_ | refine d_nil ?_ | refine n_block ?_ | refine n_skip ?_ | refine n_bon ?_ | refine n_bback ?_ | refine n_back ?_ | refine n_out ?_ | refine n_bout rfl ?_ | refine n_bfar rfl ?_ | refine n_ret ?_ | refine n_exit ?_ | refine n_label ?_ | refine n_scope ?_ | refine n_son ?_ | refine n_sback ?_) | (with_reducible (first | apply n_region | apply d_region); (simp only [JV, JU, JW, Nat.reduceAdd, Nat.zero_add]; exact rfl)) | (with_reducible (first | apply s_op | apply n_guard | apply n_cond | apply d_guard | apply d_op | apply n_fin | apply n_finb); (simp (maxDischargeDepth := 6) only [sy3.1, zY, qG, qP, qQ, qR, qS, qT, rowAt, ↓jg, ↓ji, Nat.reduceAdd, Nat.reduceEqDiff, ne_eq, jG, Nat.reduceLT, if_true, ite_true, Int.reduceLE, Int.reduceLT, Int.reduceEq, Int.reduceNeg, Int.reduceAdd, Nat.reduceSub, if_false, ite_false, fs_9.1, vv, h11, hl11, h4, kind_pure, kind_load, kind_fresh, kind_other, jg, ji, undef]; first | exact rfl | exact ⟨rfl, rfl, rfl, rfl⟩); try (with_reducible refine calmK_in ?_; decide +kernel)))
  have hB51 : B5.i = B1.i := hB5.trans hB3
  have hw5 : ∀ x, x < nx1 → w1 x = 0 → w5 x = 0 := fun x hx hw0 => (hfr5 x (by omega) (hfr3 x (by omega) hw0).2).2
  refine new_end ?_ fun l' hmo hin => ?_
  · have : Nat.blt B1.i nx = false := blt_new (by omega)
    show lowV nx (Value.tuple #[.pointer (some ⟨B1.i, 0, none⟩), .pointer (some ⟨rh, 0, none⟩), .agg #[.int .u8 6, .int .i64 2], .bool true]) = false
    simp only [lowV, low2, low1, List.all_cons, this, Bool.false_and]
  refine ⟨_, _, l', w5, B5, rh, (by rw [hB51]; rfl), by omega, hH5.keep (by omega) (fun x hx => by have := hH5.wlt x hx; omega) (fun x hx => ⟨?_, rfl⟩), by omega, fun x hx => ⟨?_, hw5 x (by omega) (hfr1 x (by omega)).2⟩, hmo⟩
  · have hxl := hH5.wlt x hx
    have k1 : x ≠ rh := fun e => hx (by rw [e]; exact (hfr5 _ (by omega) z1).2)
    have k2 : x ≠ s4 := fun e => hx (by rw [e]; exact (hfr5 _ (by omega) (hw3 _ (by omega))).2)
    have k3 : x ≠ nx4 + 7 := fun e => hx (by rw [e]; exact (hfr5 _ (by omega) (hw3 _ (by omega))).2)
    have k4 : x ≠ nx + 2 := fun e => hx (by rw [e]; exact hw5 _ (by omega) (hfr1 _ (by omega)).2)
    (repeat (first | rw [qE] | rw [qF _ _ _ _ (by omega)]))
    rw [hfr6 x (by omega) k1 k2]
    (repeat (first | rw [qE] | rw [qF _ _ _ _ (by omega)]))
  · (repeat (first | rw [qE] | rw [qF _ _ _ _ (by omega)]))
    rw [hold x (by omega) (hfr1 x (by omega)).2, (hfr1 x (by omega)).1]
    (repeat (first | rw [qE] | rw [qF _ _ _ _ (by omega)]))
end
end Go.Proofs.Ytckahbnkdiamjaa
